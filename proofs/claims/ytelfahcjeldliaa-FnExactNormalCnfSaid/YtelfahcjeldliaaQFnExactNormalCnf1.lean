/- FnExactNormalCnf: for every input the law returns true. The texts that this program's session printed and proved for it, those that the proof uses, laid together. Conditions: the form's own reach alone. -/
import Derived.Test.YtelfahcjeldliaaQFnExactNormalCnf0
import Derived.Lib.RowBridge
import Derived.Shelf.SlSortCmp.NoneTotal
import Derived.Shelf.SlicesG.CompactI
import Derived.Ground.SlsfProg
import Derived.Ground.SlgnProg
import Derived.Test.YtelfahcjeldliaaProg
import Derived.Below
import Derived.Deep.Draws
import Derived.Deep.AppendLies
import Derived.Maps.AppendAt
import Derived.OwnWalk
import Derived.Laws.BytesArg
import Derived.Laws.MakeOwn
import Derived.Laws.OwnMore
import Derived.Deep.OwnRows
import Derived.Tactics
import Derived.Lib.ConvBytes
import Derived.Laws.Slices
import Derived.WalkKit
import Derived.KernelRfl
import Derived.RowKit3
import Derived.Deep.LoopGhost
import Derived.Deep.QuietTactic
import Derived.BigQuiet
import Derived.WideLaws
import Derived.Deep.DeepCutAuto
import Derived.Deep.CutBlock
import Derived.Deep.RegionHeld3
import Derived.Laws.Rows
import Derived.Lib.AppendStr
import Derived.ArgAppend
import Derived.Laws.IdiomCopy
import Derived.OrdersHeld
import Derived.Laws.BitsLemmas
import Derived.RowKit
import Derived.Shelf.Abstract
import Derived.Deep.Slices
import Derived.IntWalk
import Derived.WalkSpells
section
set_option linter.unusedVariables false
namespace Go.Proofs.YtelfahcjeldliaaW.PrintWords
def rk (x : Int) : Int := if x < 0 then 1 - 2 * x else 2 * x
def inR (x : Int) : Prop := -1000000 ≤ x ∧ x ≤ 1000000
instance (x : Int) : Decidable (inR x) := inferInstanceAs (Decidable (_ ∧ _))
theorem rk_inj {x y : Int} (h : rk x = rk y) : x = y := by unfold rk at h; split at h <;> split at h <;> omega
def cntB (c : Int) : List Int → Nat
 | [] => 0
 | y :: r => if rk y < rk c then cntB c r + 1 else 0
def insR (c : Int) (l : List Int) : List Int := if l[cntB c l]? = some c then l else l.take (cntB c l) ++ [c] ++ l.drop (cntB c l)
def insAll : List Int → List Int → List Int
 | [], o => o
 | c :: r, o => insAll r (insR c o)
def oppB : List Int → Bool
 | [] => false
 | [_] => false
 | x :: y :: r => (x == -y) || oppB (y :: r)
theorem cntB_le (c : Int) : ∀ l : List Int, cntB c l ≤ l.length
 | [] => Nat.le_refl _
 | y :: r => by
  rw [cntB]
  have := cntB_le c r
  split <;> simp <;> omega
theorem cntB_step {c : Int} {l : List Int} {j : Nat} (hj : j < l.length) (h : rk l[j] < rk c) : j + cntB c (l.drop j) = j + 1 + cntB c (l.drop (j + 1)) := by
 rw [List.drop_eq_getElem_cons hj, cntB, if_pos h]
 omega
theorem cntB_stop {c : Int} {l : List Int} {j : Nat} (hj : j < l.length) (h : ¬ rk l[j] < rk c) : cntB c (l.drop j) = 0 := by
 rw [List.drop_eq_getElem_cons hj, cntB, if_neg h]
theorem insR_len (c : Int) (l : List Int) : (insR c l).length ≤ l.length + 1 := by
 unfold insR
 have := cntB_le c l
 split
 ·omega
 ·simp only [List.length_append, List.length_take, List.length_drop, List.length_cons, List.length_nil]; omega
theorem insR_in {c : Int} {l : List Int} (hc : inR c) (hl : ∀ x ∈ l, inR x) : ∀ x ∈ insR c l, inR x := by
 intro x hx
 unfold insR at hx
 split at hx
 ·exact hl x hx
 ·simp only [List.mem_append, List.mem_singleton] at hx
  rcases hx with (h | h) | h
  ·exact hl x (List.mem_of_mem_take h)
  ·subst h; exact hc
  ·exact hl x (List.mem_of_mem_drop h)
theorem oppB_step {l : List Int} {j : Nat} (hj : j + 1 < l.length) : oppB (l.drop j) = ((l[j] == -l[j + 1]) || oppB (l.drop (j + 1))) := by
 rw [List.drop_eq_getElem_cons (by omega : j < l.length), List.drop_eq_getElem_cons hj]
 rfl
theorem oppB_end {l : List Int} {j : Nat} (hj : l.length ≤ j + 1) : oppB (l.drop j) = false := by
 rcases h : l.drop j with _ | ⟨x, _ | ⟨y, r⟩⟩
 ·rfl
 ·rfl
 ·have := congrArg List.length h
  rw [List.length_drop] at this
  simp only [List.length_cons] at this
  omega
end Go.Proofs.YtelfahcjeldliaaW.PrintWords
end
section
namespace Go.Proofs
open Go.Shelf
def Try.sortL_ren : Go.Shelf.Ren := ⟨fun | 6 => 114 | 15 => 122 | 14 => 127 | 28 => 137 | 29 => 138 | 20 => 139 | 21 => 140 | 22 => 141 | 23 => 142 | 24 => 143 | 25 => 144 | 26 => 145 | 27 => 146 | 46 => 152 | 47 => 148 | 48 => 149 | 49 => 153 | 50 => 154 | 57 => 156 | n => n, fun | 22 => 37 | 24 => 3 | 25 => 118 | 3 => 3 | 39 => 122 | 0 => 0 | 53 => 136 | 55 => 138 | 4 => 4 | 46 => 130 | 45 => 129 | 50 => 113 | 5 => 5 | 9 => 9 | 66 => 144 | 70 => 148 | 76 => 152 | 77 => 28 | n => n, fun | n => n⟩
theorem Try.sortL : Go.Proofs.SlLaysF.n6 Try.prog Try.sortL_ren := {
 mixed := by kernel_rfl
 f6 := ⟨Try.f114.name, by decide, Try.func114.trans (congrArg some (by kernel_rfl))⟩
 f14 := ⟨Try.f127.name, by decide, Try.func127.trans (congrArg some (by kernel_rfl))⟩
 f15 := Try.func122.trans (congrArg some (by kernel_rfl))
 f20 := ⟨Try.f139.name, by decide, Try.func139.trans (congrArg some (by kernel_rfl))⟩
 f21 := ⟨Try.f140.name, by decide, Try.func140.trans (congrArg some (by kernel_rfl))⟩
 f22 := ⟨Try.f141.name, by decide, Try.func141.trans (congrArg some (by kernel_rfl))⟩
 f23 := ⟨Try.f142.name, by decide, Try.func142.trans (congrArg some (by kernel_rfl))⟩
 f24 := ⟨Try.f143.name, by decide, Try.func143.trans (congrArg some (by kernel_rfl))⟩
 f25 := ⟨Try.f144.name, by decide, Try.func144.trans (congrArg some (by kernel_rfl))⟩
 f26 := ⟨Try.f145.name, by decide, Try.func145.trans (congrArg some (by kernel_rfl))⟩
 f27 := ⟨Try.f146.name, by decide, Try.func146.trans (congrArg some (by kernel_rfl))⟩
 f28 := Try.func137.trans (congrArg some (by kernel_rfl))
 f29 := Try.func138.trans (congrArg some (by kernel_rfl))
 f46 := ⟨Try.f152.name, by decide, Try.func152.trans (congrArg some (by kernel_rfl))⟩
 f47 := Try.func148.trans (congrArg some (by kernel_rfl))
 f48 := Try.func149.trans (congrArg some (by kernel_rfl))
 f49 := ⟨Try.f153.name, by decide, Try.func153.trans (congrArg some (by kernel_rfl))⟩
 f50 := ⟨Try.f154.name, by decide, Try.func154.trans (congrArg some (by kernel_rfl))⟩
 f57 := ⟨Try.f156.name, by decide, Try.func156.trans (congrArg some (by kernel_rfl))⟩
 t0 := Try.underlying0
 a0 := Try.isAgg0
 z0 := Try.sizeOf0
 v0 := Try.zeroValue0
 t3 := Try.underlying3
 a3 := Try.isAgg3
 z3 := Try.sizeOf3
 v3 := Try.zeroValue3
 t4 := Try.underlying4
 a4 := Try.isAgg4
 z4 := Try.sizeOf4
 v4 := Try.zeroValue4
 t5 := Try.underlying5
 a5 := Try.isAgg5
 z5 := Try.sizeOf5
 v5 := Try.zeroValue5
 t9 := Try.underlying9
 a9 := Try.isAgg9
 z9 := Try.sizeOf9
 v9 := Try.zeroValue9
 t22 := Try.underlying37
 a22 := Try.isAgg37
 z22 := Try.sizeOf37
 v22 := Try.zeroValue37
 a24 := Try.isAgg3
 z24 := Try.sizeOf3
 t25 := Try.underlying118
 a25 := Try.isAgg118
 z25 := Try.sizeOf118
 v25 := Try.zeroValue118
 t39 := Try.underlying122
 a39 := Try.isAgg122
 z39 := Try.sizeOf122
 v39 := Try.zeroValue122
 t45 := Try.underlying129
 a45 := Try.isAgg129
 z45 := Try.sizeOf129
 v45 := Try.zeroValue129
 t46 := Try.underlying130
 a46 := Try.isAgg130
 z46 := Try.sizeOf130
 v46 := Try.zeroValue130
 t50 := Try.underlying113
 a50 := Try.isAgg113
 z50 := Try.sizeOf113
 v50 := Try.zeroValue113
 t53 := Try.underlying136
 a53 := Try.isAgg136
 z53 := Try.sizeOf136
 v53 := Try.zeroValue136
 t55 := Try.underlying138
 a55 := Try.isAgg138
 z55 := Try.sizeOf138
 v55 := Try.zeroValue138
 t66 := Try.underlying144
 a66 := Try.isAgg144
 z66 := Try.sizeOf144
 v66 := Try.zeroValue144
 t70 := Try.underlying148
 a70 := Try.isAgg148
 z70 := Try.sizeOf148
 v70 := Try.zeroValue148
 t76 := Try.underlying152
 a76 := Try.isAgg152
 z76 := Try.sizeOf152
 v76 := Try.zeroValue152
 t77 := Try.underlying28
 a77 := Try.isAgg28
 z77 := Try.sizeOf28
 v77 := Try.zeroValue28 }
def Try.compL_ren : Go.Shelf.Ren := ⟨fun | 43 => 116 | n => n, fun | 22 => 37 | 23 => 3 | 3 => 3 | 4 => 4 | 0 => 0 | n => n, fun | n => n⟩
theorem Try.compL : Go.Proofs.SlLaysN.n43 Try.prog Try.compL_ren := {
 mixed := by kernel_rfl
 f43 := ⟨Try.f116.name, by decide, Try.func116.trans (congrArg some (by kernel_rfl))⟩
 t0 := Try.underlying0
 a0 := Try.isAgg0
 z0 := Try.sizeOf0
 v0 := Try.zeroValue0
 t3 := Try.underlying3
 a3 := Try.isAgg3
 z3 := Try.sizeOf3
 v3 := Try.zeroValue3
 t4 := Try.underlying4
 a4 := Try.isAgg4
 z4 := Try.sizeOf4
 v4 := Try.zeroValue4
 t22 := Try.underlying37
 a22 := Try.isAgg37
 z22 := Try.sizeOf37
 v22 := Try.zeroValue37
 t23 := Try.underlying3
 a23 := Try.isAgg3
 z23 := Try.sizeOf3
 v23 := Try.zeroValue3
 i23 := by kernel_rfl }
def Try.sortR_ren : Go.Shelf.Ren := ⟨fun | 6 => 91 | 15 => 122 | 14 => 121 | 28 => 137 | 29 => 138 | 20 => 129 | 21 => 130 | 22 => 131 | 23 => 132 | 24 => 133 | 25 => 134 | 26 => 135 | 27 => 136 | 46 => 147 | 47 => 148 | 48 => 149 | 49 => 150 | 50 => 151 | 57 => 155 | n => n, fun | 22 => 22 | 24 => 37 | 25 => 101 | 3 => 3 | 39 => 122 | 0 => 0 | 53 => 136 | 55 => 138 | 4 => 4 | 46 => 130 | 45 => 129 | 50 => 113 | 5 => 5 | 9 => 9 | 66 => 144 | 70 => 148 | 76 => 152 | 77 => 28 | n => n, fun | n => n⟩
theorem Try.sortR : Go.Proofs.SlLaysF.n6 Try.prog Try.sortR_ren := {
 mixed := by kernel_rfl
 f6 := ⟨Try.f91.name, by decide, Try.func91.trans (congrArg some (by kernel_rfl))⟩
 f14 := ⟨Try.f121.name, by decide, Try.func121.trans (congrArg some (by kernel_rfl))⟩
 f15 := Try.func122.trans (congrArg some (by kernel_rfl))
 f20 := ⟨Try.f129.name, by decide, Try.func129.trans (congrArg some (by kernel_rfl))⟩
 f21 := ⟨Try.f130.name, by decide, Try.func130.trans (congrArg some (by kernel_rfl))⟩
 f22 := ⟨Try.f131.name, by decide, Try.func131.trans (congrArg some (by kernel_rfl))⟩
 f23 := ⟨Try.f132.name, by decide, Try.func132.trans (congrArg some (by kernel_rfl))⟩
 f24 := ⟨Try.f133.name, by decide, Try.func133.trans (congrArg some (by kernel_rfl))⟩
 f25 := ⟨Try.f134.name, by decide, Try.func134.trans (congrArg some (by kernel_rfl))⟩
 f26 := ⟨Try.f135.name, by decide, Try.func135.trans (congrArg some (by kernel_rfl))⟩
 f27 := ⟨Try.f136.name, by decide, Try.func136.trans (congrArg some (by kernel_rfl))⟩
 f28 := Try.func137.trans (congrArg some (by kernel_rfl))
 f29 := Try.func138.trans (congrArg some (by kernel_rfl))
 f46 := ⟨Try.f147.name, by decide, Try.func147.trans (congrArg some (by kernel_rfl))⟩
 f47 := Try.func148.trans (congrArg some (by kernel_rfl))
 f48 := Try.func149.trans (congrArg some (by kernel_rfl))
 f49 := ⟨Try.f150.name, by decide, Try.func150.trans (congrArg some (by kernel_rfl))⟩
 f50 := ⟨Try.f151.name, by decide, Try.func151.trans (congrArg some (by kernel_rfl))⟩
 f57 := ⟨Try.f155.name, by decide, Try.func155.trans (congrArg some (by kernel_rfl))⟩
 t0 := Try.underlying0
 a0 := Try.isAgg0
 z0 := Try.sizeOf0
 v0 := Try.zeroValue0
 t3 := Try.underlying3
 a3 := Try.isAgg3
 z3 := Try.sizeOf3
 v3 := Try.zeroValue3
 t4 := Try.underlying4
 a4 := Try.isAgg4
 z4 := Try.sizeOf4
 v4 := Try.zeroValue4
 t5 := Try.underlying5
 a5 := Try.isAgg5
 z5 := Try.sizeOf5
 v5 := Try.zeroValue5
 t9 := Try.underlying9
 a9 := Try.isAgg9
 z9 := Try.sizeOf9
 v9 := Try.zeroValue9
 t22 := Try.underlying22
 a22 := Try.isAgg22
 z22 := Try.sizeOf22
 v22 := Try.zeroValue22
 a24 := Try.isAgg37
 z24 := Try.sizeOf37
 t25 := Try.underlying101
 a25 := Try.isAgg101
 z25 := Try.sizeOf101
 v25 := Try.zeroValue101
 t39 := Try.underlying122
 a39 := Try.isAgg122
 z39 := Try.sizeOf122
 v39 := Try.zeroValue122
 t45 := Try.underlying129
 a45 := Try.isAgg129
 z45 := Try.sizeOf129
 v45 := Try.zeroValue129
 t46 := Try.underlying130
 a46 := Try.isAgg130
 z46 := Try.sizeOf130
 v46 := Try.zeroValue130
 t50 := Try.underlying113
 a50 := Try.isAgg113
 z50 := Try.sizeOf113
 v50 := Try.zeroValue113
 t53 := Try.underlying136
 a53 := Try.isAgg136
 z53 := Try.sizeOf136
 v53 := Try.zeroValue136
 t55 := Try.underlying138
 a55 := Try.isAgg138
 z55 := Try.sizeOf138
 v55 := Try.zeroValue138
 t66 := Try.underlying144
 a66 := Try.isAgg144
 z66 := Try.sizeOf144
 v66 := Try.zeroValue144
 t70 := Try.underlying148
 a70 := Try.isAgg148
 z70 := Try.sizeOf148
 v70 := Try.zeroValue148
 t76 := Try.underlying152
 a76 := Try.isAgg152
 z76 := Try.sizeOf152
 v76 := Try.zeroValue152
 t77 := Try.underlying28
 a77 := Try.isAgg28
 z77 := Try.sizeOf28
 v77 := Try.zeroValue28 }
end Go.Proofs
end
section
namespace Go.Proofs.Ytelfahcjeldliaa.PFnExactNormalCnf
open Go.RowKit Go.Proofs.YtelfahcjeldliaaW.PrintWords Go.Proofs.YtelfahcjeldliaaW.PrintLast Go.Proofs.YtelfahcjeldliaaW.PrintMore
attribute [local go_sem] max2_int min2_int max_two min_two max_three min_three max_four min_four   -- for this text's walks alone
set_option linter.unusedVariables false
set_option linter.unusedSimpArgs false
def errW : Option Int → Value
 | none => .nilIface
 | some c => .iface 0 (.int .i64 c)
theorem errW_none : errW none = .nilIface := rfl
theorem errW_some (c : Int) : errW (some c) = .iface 0 (.int .i64 c) := rfl
theorem info3 : (Try.prog.info? 3).map (fun i => (i.zero, i.size, i.bytes)) = some (some (.int .i64 0), 1, 8) := by kernel_rfl
theorem info37 : (Try.prog.info? 37).map (fun i => (i.zero, i.size, i.bytes)) = some (some (.slice none 0 0), 1, 24) := by kernel_rfl
def rd_L1 (xs : List (List Int)) (i : Int) : (List Int) := xs.getD i.toNat ([] : List Int)
theorem at_L1 {w : World} {A : Option Addr} {n : Nat} {xs : List (List Int)} (h : Kd.C (Kd.slice 3 (Kd.int .i64)) w A n xs) (i : Int) (h0 : 0 ≤ i) (h1 : i < n) : ∃ ad A0 c0, A = some ad ∧ w.cell? (ad.add i.toNat) = some (.slice A0 (rd_L1 xs i).length c0) ∧ (rd_L1 xs i).length ≤ c0 ∧ (Kd.int .i64).C w A0 (rd_L1 xs i).length (rd_L1 xs i) := by
 obtain ⟨ad, c, e, _, hK, hc0⟩ := Kd.C_get h ([] : List Int) i h0 h1
 have hc : ∀ j u, c[j]? = some u → w.cell? (ad.add (i.toNat * 1 + j)) = some u := hc0
 obtain ⟨A0, c0, rfl, l0, g0⟩ := hK
 exact ⟨ad, A0, c0, e, by have hq := hc 0 _ rfl; rwa [Nat.mul_one, Nat.add_zero] at hq, l0, g0⟩
structure S24 where
 f0 : Int
 f1 : (List (List Int))
def z24 : S24 := ⟨(0 : Int), ([] : List (List Int))⟩
end Go.Proofs.Ytelfahcjeldliaa.PFnExactNormalCnf
end
section
namespace Go.Proofs.Ytelfahcjeldliaa.PFnExactNormalCnf
open Go.RowKit Go.Proofs.YtelfahcjeldliaaW.PrintWords Go.Proofs.YtelfahcjeldliaaW.PrintLast Go.Proofs.YtelfahcjeldliaaW.PrintMore
attribute [local go_sem] max2_int min2_int max_two min_two max_three min_three max_four min_four   -- for this text's walks alone
set_option linter.unusedVariables false
set_option linter.unusedSimpArgs false
def laws_szIntS.f (l0 : List Int) (a1 : Int) : Option (Int) := if (wrap64 (a1 - (l0.length : Int))) < 0 then (some (-1)) else (some (wrap64 (a1 - (l0.length : Int))))
set_option maxHeartbeats 8000000 in
set_option maxRecDepth 100000 in
theorem laws_szIntS.calls (A0 : Option Addr) (c0 : Nat) (l0 : List Int) (a1 : Int) (r : Int) (w : World) (hr0 : Kd.C (Kd.int .i64) w A0 l0.length l0) (hc0 : l0.length ≤ c0) (h : laws_szIntS.f l0 a1 = some r) :
  Calls Try.prog 96 #[.slice A0 l0.length c0, .int .i64 a1] w fun e w' => e = .returned (.int .i64 r) ∧ Drawn0 w w' := by
 have HR0 := Aside0.mk hr0
 have HC0 := Aside0.mk hc0
 clear hr0 hc0
 have H : (if (wrap64 (a1 - (l0.length : Int))) < 0 then (some (-1)) else (some (wrap64 (a1 - (l0.length : Int))))) = some r := h
 clear h
 by_cases c3 : (wrap64 (a1 - (l0.length : Int))) < 0
 ·rw [if_pos c3] at H
  have c3b0 : decide ((wrap64 (a1 - (l0.length : Int))) < 0) = true := decide_eq_true c3
  clear c3
  obtain rfl := Option.some.inj H
  go_enter Try.func96, Try.ntmps96
  go_wp2
  go_ret
  exact ⟨by first | rfl | (simp; done) | (simp [*]; done), by repeat (first | exact Drawn0.refl _ | apply Drawn0.step)⟩
 ·rw [if_neg c3] at H
  have c3b0 : decide ((wrap64 (a1 - (l0.length : Int))) < 0) = false := decide_eq_false c3
  clear c3
  obtain rfl := Option.some.inj H
  go_enter Try.func96, Try.ntmps96
  go_wp2
  go_ret
  exact ⟨by first | rfl | (simp; done) | (simp [*]; done), by repeat (first | exact Drawn0.refl _ | apply Drawn0.step)⟩
def laws_szIntSS.l0 : Nat → List (List Int) → Int → Int → Option (Int)
 | 0, _, _, _ => none
 | k + 1, x0, x1, x5 => if x5 < (x0.length : Int) then (if 0 ≤ x5 then ((laws_szIntS.f (rd_L1 x0 x5) x1).bind fun t102 => (if t102 < 0 then (some (-1)) else (laws_szIntSS.l0 k x0 t102 (wrap64 (x5 + 1))))) else (none)) else (some x1)
def laws_szIntSS.f (k : Nat) (l0 : List (List Int)) (a1 : Int) : Option (Int) := if (wrap64 (a1 - (l0.length : Int))) < 0 then (some (-1)) else (laws_szIntSS.l0 k l0 (wrap64 (a1 - (l0.length : Int))) 0)
set_option maxHeartbeats 8000000 in
set_option maxRecDepth 100000 in
theorem laws_szIntSS.calls (k : Nat) (A0 : Option Addr) (c0 : Nat) (l0 : List (List Int)) (a1 : Int) (r : Int) (w : World) (hr0 : Kd.C (Kd.slice 3 (Kd.int .i64)) w A0 l0.length l0) (hc0 : l0.length ≤ c0) (h : laws_szIntSS.f k l0 a1 = some r) :
  Calls Try.prog 47 #[.slice A0 l0.length c0, .int .i64 a1] w fun e w' => e = .returned (.int .i64 r) ∧ Drawn0 w w' := by
 have HR0 := Aside0.mk hr0
 have HC0 := Aside0.mk hc0
 clear hr0 hc0
 have H : (if (wrap64 (a1 - (l0.length : Int))) < 0 then (some (-1)) else (laws_szIntSS.l0 k l0 (wrap64 (a1 - (l0.length : Int))) 0)) = some r := h
 clear h
 by_cases c3 : (wrap64 (a1 - (l0.length : Int))) < 0
 ·rw [if_pos c3] at H
  have c3b0 : decide ((wrap64 (a1 - (l0.length : Int))) < 0) = true := decide_eq_true c3
  clear c3
  obtain rfl := Option.some.inj H
  go_enter Try.func47, Try.ntmps47
  go_wp2
  go_ret
  exact ⟨by first | rfl | (simp; done) | (simp [*]; done), by repeat (first | exact Drawn0.refl _ | apply Drawn0.step)⟩
 ·rw [if_neg c3] at H
  have c3b0 : decide ((wrap64 (a1 - (l0.length : Int))) < 0) = false := decide_eq_false c3
  clear c3
  have H' := Aside0.mk H
  clear H
  go_enter Try.func47, Try.ntmps47
  go_wp2
  go_loopg [1, 5] k (fun kq v1 v5 w' => ∃ (x1_1 : Int) (x5_1 : Int), v1 = .int .i64 x1_1 ∧ v5 = .int .i64 x5_1 ∧ Aside0 (laws_szIntSS.l0 kq l0 x1_1 x5_1 = some r) ∧ Aside0 (kq ≤ k) ∧ Drawn0 w w')
  case atStart => exact ⟨(wrap64 (a1 - (l0.length : Int))), (0), (by first | rfl | (simp; done) | (simp [*]; done)), (by first | rfl | (simp; done) | (simp [*]; done)), H', ⟨Nat.le_refl _⟩, by repeat (first | exact Drawn0.refl _ | apply Drawn0.step)⟩
  case round =>
   clear H'
   try clear p2
   try clear c3
   try clear c3b0
   obtain ⟨x1_1, x5_1, rfl, rfl, HA, HK1, ⟨m1, rfl⟩⟩ := hrel
   cases gk with
   | zero => exact absurd HA.out (by simp [laws_szIntSS.l0])
   | succ k1 =>
    have H := HA.out
    clear HA
    simp only [laws_szIntSS.l0] at H
    by_cases c4 : x5_1 < (l0.length : Int)
    ·rw [if_pos c4] at H
     have c4b0 : decide (x5_1 < (l0.length : Int)) = true := decide_eq_true c4
     clear c4
     by_cases c5 : 0 ≤ x5_1
     ·rw [if_pos c5] at H
      have c5b0 : decide (0 ≤ x5_1) = true := decide_eq_true c5
      clear c5
      replace H := Option.bind_eq_some_iff.mp H
      obtain ⟨t102, A60, H⟩ := H
      replace H : (if t102 < 0 then (some (-1)) else (laws_szIntSS.l0 k1 l0 t102 (wrap64 (x5_1 + 1)))) = some r := H
      have A6 := Aside0.mk A60
      clear A60
      by_cases c7 : t102 < 0
      ·rw [if_pos c7] at H
       have c7b0 : decide (t102 < 0) = true := decide_eq_true c7
       clear c7
       obtain rfl := Option.some.inj H
       have p101 : 0 ≤ (x5_1 : Int) := of_decide_eq_true (by first | (with_reducible assumption) | assumption)
       have q101 : x5_1 < (l0.length : Int) := of_decide_eq_true (by first | (with_reducible assumption) | assumption)
       obtain ⟨ad101, A101_0, c101_0, e101, hx101_0, hl101_0, hi101_0⟩ := at_L1 HR0.out x5_1 p101 q101
       cases e101
       have HR101_0 := Aside0.mk hi101_0
       have HC101_0 := Aside0.mk hl101_0
       clear hi101_0 hl101_0
       replace p101 := eq_true p101
       replace q101 := eq_true q101
       go_wp2_with (first | ((with_reducible refine gate_callee (f := 96) rfl ?_); refine goesL_ (some 23) rfl rfl Try.func96 (by kernel_rfl) rfl #[.slice A101_0 (rd_L1 l0 x5_1).length c101_0, .int .i64 x1_1] rfl (by (try simp only [List.map_toArray, List.map_cons, List.map_nil]); first | done | rfl | (simp only [List.length_drop, List.length_take]; rfl)) ?_; (with_reducible refine (laws_szIntS.calls _ _ (rd_L1 l0 x5_1) x1_1 t102 _ ?side1 ?side2 A6.out).mono ?_); (case side1 => repeat (first | exact HR101_0.out | (with_reducible refine Kd.C_alloc ?_ _) | (with_reducible refine Kd.C_drewN ?_ _) | (with_reducible refine Kd.C_drew ?_))); (case side2 => exact HC101_0.out); rintro e w' ⟨rfl, ⟨nd, rfl⟩⟩; refine ⟨_, rfl, ?_⟩))
       go_ret
       exact ⟨by first | rfl | (simp; done) | (simp [*]; done), by repeat (first | exact Drawn0.refl _ | apply Drawn0.step)⟩
      ·rw [if_neg c7] at H
       have c7b0 : decide (t102 < 0) = false := decide_eq_false c7
       clear c7
       have H' := Aside0.mk H
       clear H
       have p101 : 0 ≤ (x5_1 : Int) := of_decide_eq_true (by first | (with_reducible assumption) | assumption)
       have q101 : x5_1 < (l0.length : Int) := of_decide_eq_true (by first | (with_reducible assumption) | assumption)
       obtain ⟨ad101, A101_0, c101_0, e101, hx101_0, hl101_0, hi101_0⟩ := at_L1 HR0.out x5_1 p101 q101
       cases e101
       have HR101_0 := Aside0.mk hi101_0
       have HC101_0 := Aside0.mk hl101_0
       clear hi101_0 hl101_0
       replace p101 := eq_true p101
       replace q101 := eq_true q101
       go_wp2_with (first | ((with_reducible refine gate_callee (f := 96) rfl ?_); refine goesL_ (some 23) rfl rfl Try.func96 (by kernel_rfl) rfl #[.slice A101_0 (rd_L1 l0 x5_1).length c101_0, .int .i64 x1_1] rfl (by (try simp only [List.map_toArray, List.map_cons, List.map_nil]); first | done | rfl | (simp only [List.length_drop, List.length_take]; rfl)) ?_; (with_reducible refine (laws_szIntS.calls _ _ (rd_L1 l0 x5_1) x1_1 t102 _ ?side1 ?side2 A6.out).mono ?_); (case side1 => repeat (first | exact HR101_0.out | (with_reducible refine Kd.C_alloc ?_ _) | (with_reducible refine Kd.C_drewN ?_ _) | (with_reducible refine Kd.C_drew ?_))); (case side2 => exact HC101_0.out); rintro e w' ⟨rfl, ⟨nd, rfl⟩⟩; refine ⟨_, rfl, ?_⟩))
       go_roundg k1
       case measure => have := HK1.out; omega
       case rel => exact ⟨(t102), (wrap64 (x5_1 + 1)), (by first | rfl | (simp; done) | (simp [*]; done)), (by first | rfl | (simp; done) | (simp [*]; done)), H', ⟨by have := HK1.out; omega⟩, by repeat (first | exact Drawn0.refl _ | apply Drawn0.step)⟩
     ·rw [if_neg c5] at H
      exact absurd H (by simp)
    ·rw [if_neg c4] at H
     have c4b0 : decide (x5_1 < (l0.length : Int)) = false := decide_eq_false c4
     clear c4
     obtain rfl := Option.some.inj H
     go_wp2
     go_ret
     exact ⟨by first | rfl | (simp; done) | (simp [*]; done), by repeat (first | exact Drawn0.refl _ | apply Drawn0.step)⟩
def laws_szCnf.f (k : Nat) (a0_0 : Int) (l0_1 : List (List Int)) (a1 : Int) : Option (Int) := (laws_szIntSS.f k l0_1 a1).bind fun t104 => (if t104 < 0 then (some (-1)) else (some t104))
set_option maxHeartbeats 8000000 in
set_option maxRecDepth 100000 in
theorem laws_szCnf.calls (k : Nat) (a0_0 : Int) (A0_1 : Option Addr) (c0_1 : Nat) (l0_1 : List (List Int)) (a1 : Int) (r : Int) (w : World) (hr0_1 : Kd.C (Kd.slice 3 (Kd.int .i64)) w A0_1 l0_1.length l0_1) (hc0_1 : l0_1.length ≤ c0_1) (h : laws_szCnf.f k a0_0 l0_1 a1 = some r) :
  Calls Try.prog 12 #[.agg #[.int .i64 a0_0, .slice A0_1 l0_1.length c0_1], .int .i64 a1] w fun e w' => e = .returned (.int .i64 r) ∧ Below w.heap.size w w' := by
 have hu24 := Try.underlying24
 have HR0_1 := Aside0.mk hr0_1
 have HC0_1 := Aside0.mk hc0_1
 clear hr0_1 hc0_1
 have HB := Aside0.mk (Below.refl w.heap.size w)
 have H : ((laws_szIntSS.f k l0_1 a1).bind fun t104 => (if t104 < 0 then (some (-1)) else (some t104))) = some r := h
 clear h
 replace H := Option.bind_eq_some_iff.mp H
 obtain ⟨t104, A30, H⟩ := H
 replace H : (if t104 < 0 then (some (-1)) else (some t104)) = some r := H
 have A3 := Aside0.mk A30
 clear A30
 by_cases c4 : t104 < 0
 ·rw [if_pos c4] at H
  have c4b0 : decide (t104 < 0) = true := decide_eq_true c4
  clear c4
  obtain rfl := Option.some.inj H
  go_enter Try.func12, Try.ntmps12
  go_wp2_with (first | ((with_reducible refine gate_dst (N := 2) rfl ?_); refine box_event ?hg (N := 2) ?hd (cs := #[.int .i64 a0_0, .slice A0_1 l0_1.length c0_1]) (t := 24) ?hr ?_; (case hd => rfl); (case hg => rfl); (case hr => first | (go_simp; done) | (go_simp; rfl)); intro gb103 hg w5 hbox hb; have n0_ := Aside0.mk (below_step (by repeat (first | (with_reducible first | exact HB.out | apply below_alloc | apply pw_below_drewN | apply below_drew1) | exact HB.out)) hb); have n1_ := Aside0.mk (hbox); have n2_ := Aside0.mk ((by rw [hg]; exact (below_size (by repeat (first | (with_reducible first | exact HB.out | apply below_alloc | apply pw_below_drewN | apply below_drew1) | exact HB.out))) : w.heap.size ≤ gb103)); have n3_ := Aside0.mk ((by rw [hg]; exact (below_size (by repeat (first | (with_reducible first | exact HB.out | apply below_alloc | apply pw_below_drewN | apply below_drew1) | exact HB.out))) : w.heap.size ≤ gb103)); clear HB; have HB := n0_; have BK103 := n1_; have GW103 := n2_; have GE103 := n3_; clear n0_ n1_ n2_ n3_; clear hb hbox hg; have hcz6_0 : w5.cell? ⟨gb103, 0, none⟩ = some (.int .i64 a0_0) := (blk_cell BK103.out 0).trans rfl; have hcz6_1 : w5.cell? ⟨gb103, 1, none⟩ = some (.slice A0_1 l0_1.length c0_1) := (blk_cell BK103.out 1).trans rfl; have hfz6_0 := blk_frozen BK103.out 0; have hfz6_1 := blk_frozen BK103.out 1) | ((with_reducible refine gate_callee (f := 47) rfl ?_); refine goesL_ (some 8) rfl rfl Try.func47 (by kernel_rfl) rfl #[.slice A0_1 l0_1.length c0_1, .int .i64 a1] rfl (by (try simp only [List.map_toArray, List.map_cons, List.map_nil]); first | done | rfl | (simp only [List.length_drop, List.length_take]; rfl)) ?_; (with_reducible refine (laws_szIntSS.calls k _ _ l0_1 a1 t104 _ ?side1 ?side2 A3.out).mono ?_); (case side1 => repeat (first | exact (Kd.C_below HR0_1.out HB.out) | (with_reducible refine Kd.C_alloc ?_ _) | (with_reducible refine Kd.C_drewN ?_ _) | (with_reducible refine Kd.C_drew ?_))); (case side2 => exact HC0_1.out); rintro e w' ⟨rfl, ⟨nd, rfl⟩⟩; refine ⟨_, rfl, ?_⟩))
  go_ret
  exact ⟨by first | rfl | (simp [errW_none, errW_some] <;> rfl) | (simp [*, errW_none, errW_some] <;> rfl), by repeat (first | (with_reducible first | exact HB.out | apply below_alloc | apply pw_below_drewN | apply below_drew1 | refine below_set ?_ GE103.out) | exact HB.out)⟩
 ·rw [if_neg c4] at H
  have c4b0 : decide (t104 < 0) = false := decide_eq_false c4
  clear c4
  obtain rfl := Option.some.inj H
  go_enter Try.func12, Try.ntmps12
  go_wp2_with (first | ((with_reducible refine gate_dst (N := 2) rfl ?_); refine box_event ?hg (N := 2) ?hd (cs := #[.int .i64 a0_0, .slice A0_1 l0_1.length c0_1]) (t := 24) ?hr ?_; (case hd => rfl); (case hg => rfl); (case hr => first | (go_simp; done) | (go_simp; rfl)); intro gb103 hg w7 hbox hb; have n0_ := Aside0.mk (below_step (by repeat (first | (with_reducible first | exact HB.out | apply below_alloc | apply pw_below_drewN | apply below_drew1) | exact HB.out)) hb); have n1_ := Aside0.mk (hbox); have n2_ := Aside0.mk ((by rw [hg]; exact (below_size (by repeat (first | (with_reducible first | exact HB.out | apply below_alloc | apply pw_below_drewN | apply below_drew1) | exact HB.out))) : w.heap.size ≤ gb103)); have n3_ := Aside0.mk ((by rw [hg]; exact (below_size (by repeat (first | (with_reducible first | exact HB.out | apply below_alloc | apply pw_below_drewN | apply below_drew1) | exact HB.out))) : w.heap.size ≤ gb103)); clear HB; have HB := n0_; have BK103 := n1_; have GW103 := n2_; have GE103 := n3_; clear n0_ n1_ n2_ n3_; clear hb hbox hg; have hcz8_0 : w7.cell? ⟨gb103, 0, none⟩ = some (.int .i64 a0_0) := (blk_cell BK103.out 0).trans rfl; have hcz8_1 : w7.cell? ⟨gb103, 1, none⟩ = some (.slice A0_1 l0_1.length c0_1) := (blk_cell BK103.out 1).trans rfl; have hfz8_0 := blk_frozen BK103.out 0; have hfz8_1 := blk_frozen BK103.out 1) | ((with_reducible refine gate_callee (f := 47) rfl ?_); refine goesL_ (some 8) rfl rfl Try.func47 (by kernel_rfl) rfl #[.slice A0_1 l0_1.length c0_1, .int .i64 a1] rfl (by (try simp only [List.map_toArray, List.map_cons, List.map_nil]); first | done | rfl | (simp only [List.length_drop, List.length_take]; rfl)) ?_; (with_reducible refine (laws_szIntSS.calls k _ _ l0_1 a1 t104 _ ?side1 ?side2 A3.out).mono ?_); (case side1 => repeat (first | exact (Kd.C_below HR0_1.out HB.out) | (with_reducible refine Kd.C_alloc ?_ _) | (with_reducible refine Kd.C_drewN ?_ _) | (with_reducible refine Kd.C_drew ?_))); (case side2 => exact HC0_1.out); rintro e w' ⟨rfl, ⟨nd, rfl⟩⟩; refine ⟨_, rfl, ?_⟩))
  go_ret
  exact ⟨by first | rfl | (simp [errW_none, errW_some] <;> rfl) | (simp [*, errW_none, errW_some] <;> rfl), by repeat (first | (with_reducible first | exact HB.out | apply below_alloc | apply pw_below_drewN | apply below_drew1 | refine below_set ?_ GE103.out) | exact HB.out)⟩
def laws_toIntS.l0 : Nat → List Int → List Int → Int → Option (List Int)
 | 0, _, _, _ => none
 | k + 1, x0, x3, x4 => if x4 < (x0.length : Int) then (if 0 ≤ x4 then (if x4 < (x3.length : Int) then (laws_toIntS.l0 k x0 (x3.set (x4 : Int).toNat (rd x0 x4)) (wrap64 (x4 + 1))) else (none)) else (none)) else (some x3)
def laws_toIntS.f (k : Nat) (l0 : List Int) : Option (List Int) := if 0 ≤ (l0.length : Int) then (if ((l0.length : Int) : Int).toNat ≤ 35184372088832 then (laws_toIntS.l0 k l0 (List.replicate ((l0.length : Int) : Int).toNat 0) 0) else (none)) else (none)
set_option maxHeartbeats 8000000 in
set_option maxRecDepth 100000 in
theorem laws_toIntS.calls (k : Nat) (A0 : Option Addr) (c0 : Nat) (l0 : List Int) (r : List Int) (w : World) (hr0 : Kd.C (Kd.int .i64) w A0 l0.length l0) (hc0 : l0.length ≤ c0) (h : laws_toIntS.f k l0 = some r) :
  Calls Try.prog 21 #[.slice A0 l0.length c0] w fun e w' => ∃ v0_ : Value, e = .returned (v0_) ∧ Kd.R (Kd.int .i64) 3 w' w.heap.size (fun _ => True) v0_ r ∧ Below w.heap.size w w' := by
 have HR0 := Aside0.mk hr0
 have HC0 := Aside0.mk hc0
 clear hr0 hc0
 have HB := Aside0.mk (Below.refl w.heap.size w)
 have H : (if 0 ≤ (l0.length : Int) then (if ((l0.length : Int) : Int).toNat ≤ 35184372088832 then (laws_toIntS.l0 k l0 (List.replicate ((l0.length : Int) : Int).toNat 0) 0) else (none)) else (none)) = some r := h
 clear h
 by_cases c2 : 0 ≤ (l0.length : Int)
 ·rw [if_pos c2] at H
  have c2b0 := eq_true c2
  have c2b1 : decide (0 ≤ (l0.length : Int)) = true := decide_eq_true c2
  clear c2
  by_cases c3 : ((l0.length : Int) : Int).toNat ≤ 35184372088832
  ·rw [if_pos c3] at H
   have c3b0 := eq_true c3
   have c3b1 : decide (((l0.length : Int) : Int).toNat ≤ 35184372088832) = true := decide_eq_true c3
   clear c3
   obtain ⟨y105, hy105⟩ : ∃ y_ : List Int, y_ = (List.replicate ((l0.length : Int) : Int).toNat 0) := ⟨_, rfl⟩
   replace H : (laws_toIntS.l0 k l0 y105 0) = some r := by first | (rw [hy105]; with_reducible exact H) | (have H2_ := (Option.bind_some _ _).symm.trans H; rw [hy105]; with_reducible exact H2_) | (have H2_ := (Option.bind_some _ _).symm.trans H; with_reducible exact H2_) | with_reducible exact H | (rw [hy105]; exact H) | exact H
   have Ny105 := Aside0.mk hy105
   clear hy105
   have H' := Aside0.mk H
   clear H
   go_enter Try.func21, Try.ntmps21
   go_wp2_with (first | ((with_reducible refine gate_dst (N := 7) rfl ?_); refine Kd.R_make (Kd.int .i64) _ 3 rfl (N := 7) rfl 37 _ _ rfl (l0.length : Int) rfl rfl Try.underlying37 (.int .i64 0) 8 info3 rfl (by decide) (by omega) 0 (ok := fun _ => True) (okp := fun _ => True) rfl (fun _ hk => hk) trivial (of_decide_eq_true (by first | (with_reducible assumption) | assumption)) (Nat.le_trans (Nat.mul_le_mul_right _ (of_decide_eq_true (by first | (with_reducible assumption) | assumption) : (l0.length : Int).toNat ≤ 35184372088832)) (by omega)) (Below.refl _ _) (Nat.le_refl _) ?_; intro v106 w4 ho5 hb hg_ hnew_; clear hg_ hnew_; (first | rw [← Ny105.out] at ho5 | (simp only [Int.reduceToNat] at ho5; rw [← Ny105.out] at ho5)); have n0_ := Aside0.mk (Kd.R_lower ho5 (below_size (by repeat (first | (with_reducible first | exact HB.out | apply below_alloc | apply pw_below_drewN | apply below_drew1) | exact HB.out)))); have n1_ := Aside0.mk (below_step (by repeat (first | (with_reducible first | exact HB.out | apply below_alloc | apply pw_below_drewN | apply below_drew1) | exact HB.out)) hb); clear HB; have HO107 := n0_; have HB := n1_; clear n0_ n1_; clear hb ho5))
   go_loopg [4] k (fun kq v4 w' => ∃ (x3_1 : List Int) (x4_1 : Int), v4 = .int .i64 x4_1 ∧ Aside0 (laws_toIntS.l0 kq l0 x3_1 x4_1 = some r) ∧ Aside0 (kq ≤ k) ∧ Aside0 (Kd.R (Kd.int .i64) 3 w' w.heap.size (fun _ => True) v106 x3_1) ∧ Aside0 (Below w.heap.size w w'))
   case atStart => exact ⟨(y105), (0), (by first | rfl | (simp; done) | (simp [*]; done)), H', ⟨Nat.le_refl _⟩, ⟨by (with_reducible repeat (first | apply Kd.R_alloc | apply Kd.R_drewN | apply Kd.R_drew)); exact HO107.out⟩, ⟨by repeat (first | (with_reducible first | exact HB.out | apply below_alloc | apply pw_below_drewN | apply below_drew1) | exact HB.out)⟩⟩
   case round =>
    clear H'
    try clear c2
    try clear c2b0
    try clear c2b1
    try clear p2
    try clear c3
    try clear c3b0
    try clear c3b1
    obtain ⟨x3_1, x4_1, rfl, HA, HK1, HO_3, HB⟩ := hrel
    cases gk with
    | zero => exact absurd HA.out (by simp [laws_toIntS.l0])
    | succ k1 =>
     have H := HA.out
     clear HA
     simp only [laws_toIntS.l0] at H
     by_cases c6 : x4_1 < (l0.length : Int)
     ·rw [if_pos c6] at H
      have c6b0 : decide (x4_1 < (l0.length : Int)) = true := decide_eq_true c6
      clear c6
      by_cases c7 : 0 ≤ x4_1
      ·rw [if_pos c7] at H
       have c7b0 : decide (0 ≤ x4_1) = true := decide_eq_true c7
       clear c7
       by_cases c8 : x4_1 < (x3_1.length : Int)
       ·rw [if_pos c8] at H
        have c8b0 : decide (x4_1 < (x3_1.length : Int)) = true := decide_eq_true c8
        clear c8
        obtain ⟨y109, hy109⟩ : ∃ y_ : List Int, y_ = (x3_1.set (x4_1 : Int).toNat (rd l0 x4_1)) := ⟨_, rfl⟩
        replace H : (laws_toIntS.l0 k1 l0 y109 (wrap64 (x4_1 + 1))) = some r := by first | (rw [hy109]; with_reducible exact H) | (have H2_ := (Option.bind_some _ _).symm.trans H; rw [hy109]; with_reducible exact H2_) | (have H2_ := (Option.bind_some _ _).symm.trans H; with_reducible exact H2_) | with_reducible exact H | (rw [hy109]; exact H) | exact H
        have Ny109 := Aside0.mk hy109
        clear hy109
        have H' := Aside0.mk H
        clear H
        have p108 : 0 ≤ (x4_1 : Int) := of_decide_eq_true (by first | (with_reducible assumption) | assumption)
        have q108 : x4_1 < (l0.length : Int) := of_decide_eq_true (by first | (with_reducible assumption) | assumption)
        obtain ⟨ad108, e108, hx108_0⟩ := Kd.at_int HR0.out x4_1 p108 q108
        cases e108
        replace hx108_0 := (HB.out.cell (World.block_lt_of_cell? w _ hx108_0)).trans hx108_0
        replace p108 := eq_true p108
        replace q108 := eq_true q108
        have p9 : 0 ≤ (x4_1 : Int) := of_decide_eq_true (by first | (with_reducible assumption) | assumption)
        have q9 : (x4_1 : Int) < ((x3_1.length : Int) : Int) := of_decide_eq_true (by first | (with_reducible assumption) | assumption)
        obtain ⟨go9, co9, eo9, gb9, gl9, cl9, HG9⟩ := Kd.R_form HO_3.out (by omega)
        (first | cases eo9 | (injection eo9 with ea_ en_ ec_; (first | subst ea_ | (injection ea_ with ea_; subst ea_)); subst ec_; clear en_))
        have GB9 := Aside0.mk gb9
        have GG9 := Aside0.mk HG9
        clear gb9 gl9 HG9
        obtain ⟨hx9_0, hf9_0⟩ := Kd.R_celln 0 HO_3.out (x4_1 : Int) p9 q9
        replace p9 := eq_true p9
        replace q9 := eq_true q9
        have HP10 := Kd.R_putg HO_3.out (x4_1 : Int) (rd l0 x4_1)
        go_wp2_with (first | ((with_reducible refine gate_store (t := 3) (p := 20) rfl ?_); refine store_event (t := 3) (p := 20) (v := ?vo_w11) (w1 := (wr.setCell ⟨go9, (x4_1 : Int).toNat, none⟩ (.int .i64 (rd l0 x4_1)))) ?hg ?ho ?hn ?hr ?_; (case ho => rfl); (case hg => rfl); (case hn => rfl); (case hr => first | (go_simp; done) | (go_simp; rfl)); intro w11 hw; have hg : wr.grownBy w11 (some go9) := (by rw [hw]; exact HP10.2); have hp_ : Kd.R (Kd.int .i64) 3 w11 w.heap.size (fun _ => True) (.slice (some ⟨go9, 0, none⟩) x3_1.length co9) y109 := (by rw [hw, Ny109.out]; exact HP10.1); clear HP10; have n0_ := Aside0.mk (hp_); have n1_ := Aside0.mk ((by rw [hw]; exact below_set (HB.out) GB9.out : Below w.heap.size w w11)); clear HO_3; clear HB; have HO_3 := n0_; have HB := n1_; clear n0_ n1_; clear hg hw hp_))
        go_roundg k1
        case measure => have := HK1.out; omega
        case rel => exact ⟨(y109), (wrap64 (x4_1 + 1)), (by first | rfl | (simp; done) | (simp [*]; done)), H', ⟨by have := HK1.out; omega⟩, ⟨by (with_reducible repeat (first | apply Kd.R_alloc | apply Kd.R_drewN | apply Kd.R_drew)); exact HO_3.out⟩, ⟨by repeat (first | (with_reducible first | exact HB.out | apply below_alloc | apply pw_below_drewN | apply below_drew1) | exact HB.out)⟩⟩
       ·rw [if_neg c8] at H
        exact absurd H (by simp)
      ·rw [if_neg c7] at H
       exact absurd H (by simp)
     ·rw [if_neg c6] at H
      have c6b0 : decide (x4_1 < (l0.length : Int)) = false := decide_eq_false c6
      clear c6
      obtain rfl := Option.some.inj H
      go_wp2
      go_ret
      exact ⟨_, by first | rfl | (simp [errW_none, errW_some] <;> rfl) | (simp [*, errW_none, errW_some] <;> rfl), by (with_reducible repeat (first | apply Kd.R_alloc | apply Kd.R_drewN | apply Kd.R_drew)); exact HO_3.out, by repeat (first | (with_reducible first | exact HB.out | apply below_alloc | apply pw_below_drewN | apply below_drew1) | exact HB.out)⟩
  ·rw [if_neg c3] at H
   exact absurd H (by simp)
 ·rw [if_neg c2] at H
  exact absurd H (by simp)
def laws_toIntSS.l0 : Nat → List (List Int) → List (List Int) → Int → Option ((List (List Int)))
 | 0, _, _, _ => none
 | k + 1, x0, x3, x4 => if x4 < (x0.length : Int) then (if 0 ≤ x4 then ((laws_toIntS.f k (rd_L1 x0 x4)).bind fun t114 => (if x4 < (x3.length : Int) then (laws_toIntSS.l0 k x0 (x3.set (x4 : Int).toNat t114) (wrap64 (x4 + 1))) else (none))) else (none)) else (some x3)
def laws_toIntSS.f (k : Nat) (l0 : List (List Int)) : Option ((List (List Int))) := if 0 ≤ (l0.length : Int) then (if ((l0.length : Int) : Int).toNat ≤ 11728124029610 then (laws_toIntSS.l0 k l0 (List.replicate ((l0.length : Int) : Int).toNat []) 0) else (none)) else (none)
set_option maxHeartbeats 8000000 in
set_option maxRecDepth 100000 in
theorem laws_toIntSS.calls (k : Nat) (A0 : Option Addr) (c0 : Nat) (l0 : List (List Int)) (r : List (List Int)) (w : World) (hr0 : Kd.C (Kd.slice 3 (Kd.int .i64)) w A0 l0.length l0) (hc0 : l0.length ≤ c0) (h : laws_toIntSS.f k l0 = some r) :
  Calls Try.prog 52 #[.slice A0 l0.length c0] w fun e w' => ∃ v0_ : Value, e = .returned (v0_) ∧ Kd.S (Kd.slice 3 (Kd.int .i64)) 37 w' w.heap.size (fun _ => True) v0_ r ∧ Below w.heap.size w w' := by
 have HR0 := Aside0.mk hr0
 have HC0 := Aside0.mk hc0
 clear hr0 hc0
 have HB := Aside0.mk (Below.refl w.heap.size w)
 have H : (if 0 ≤ (l0.length : Int) then (if ((l0.length : Int) : Int).toNat ≤ 11728124029610 then (laws_toIntSS.l0 k l0 (List.replicate ((l0.length : Int) : Int).toNat []) 0) else (none)) else (none)) = some r := h
 clear h
 by_cases c2 : 0 ≤ (l0.length : Int)
 ·rw [if_pos c2] at H
  have c2b0 := eq_true c2
  have c2b1 : decide (0 ≤ (l0.length : Int)) = true := decide_eq_true c2
  clear c2
  by_cases c3 : ((l0.length : Int) : Int).toNat ≤ 11728124029610
  ·rw [if_pos c3] at H
   have c3b0 := eq_true c3
   have c3b1 : decide (((l0.length : Int) : Int).toNat ≤ 11728124029610) = true := decide_eq_true c3
   clear c3
   obtain ⟨y110, hy110⟩ : ∃ y_ : List (List Int), y_ = (List.replicate ((l0.length : Int) : Int).toNat []) := ⟨_, rfl⟩
   replace H : (laws_toIntSS.l0 k l0 y110 0) = some r := by first | (rw [hy110]; with_reducible exact H) | (have H2_ := (Option.bind_some _ _).symm.trans H; rw [hy110]; with_reducible exact H2_) | (have H2_ := (Option.bind_some _ _).symm.trans H; with_reducible exact H2_) | with_reducible exact H | (rw [hy110]; exact H) | exact H
   have Ny110 := Aside0.mk hy110
   clear hy110
   have H' := Aside0.mk H
   clear H
   go_enter Try.func52, Try.ntmps52
   go_wp2_with (first | ((with_reducible refine gate_dst (N := 7) rfl ?_); refine Kd.S_make (Kd.slice 3 (Kd.int .i64)) _ 37 rfl (N := 7) rfl 22 _ _ rfl (l0.length : Int) rfl rfl Try.underlying22 (.slice none 0 0) 24 info37 rfl (by decide) (by omega) [] (ok := fun _ => True) (okp := fun _ => True) ⟨_, rfl, Kd.R_nil _ _ _ _ _⟩ (fun _ hk => hk) trivial (of_decide_eq_true (by first | (with_reducible assumption) | assumption)) (Nat.le_trans (Nat.mul_le_mul_right _ (of_decide_eq_true (by first | (with_reducible assumption) | assumption) : (l0.length : Int).toNat ≤ 11728124029610)) (by omega)) (Below.refl _ _) (Nat.le_refl _) ?_; intro v111 w4 ho5 hb hg_ hnew_; clear hg_ hnew_; (first | rw [← Ny110.out] at ho5 | (simp only [Int.reduceToNat] at ho5; rw [← Ny110.out] at ho5)); have n0_ := Aside0.mk (Kd.S_lower ho5 (below_size (by repeat (first | (with_reducible first | exact HB.out | apply below_alloc | apply pw_below_drewN | apply below_drew1) | exact HB.out)))); have n1_ := Aside0.mk (below_step (by repeat (first | (with_reducible first | exact HB.out | apply below_alloc | apply pw_below_drewN | apply below_drew1) | exact HB.out)) hb); clear HB; have HO112 := n0_; have HB := n1_; clear n0_ n1_; clear hb ho5))
   go_loopg [4] k (fun kq v4 w' => ∃ (x3_1 : List (List Int)) (x4_1 : Int), v4 = .int .i64 x4_1 ∧ Aside0 (laws_toIntSS.l0 kq l0 x3_1 x4_1 = some r) ∧ Aside0 (kq ≤ k) ∧ Aside0 (Kd.S (Kd.slice 3 (Kd.int .i64)) 37 w' w.heap.size (fun _ => True) v111 x3_1) ∧ Aside0 (Below w.heap.size w w'))
   case atStart => exact ⟨(y110), (0), (by first | rfl | (simp; done) | (simp [*]; done)), H', ⟨Nat.le_refl _⟩, ⟨by (with_reducible repeat (first | apply Kd.S_alloc | apply Kd.S_drewN | apply Kd.S_drew)); exact HO112.out⟩, ⟨by repeat (first | (with_reducible first | exact HB.out | apply below_alloc | apply pw_below_drewN | apply below_drew1) | exact HB.out)⟩⟩
   case round =>
    clear H'
    try clear c2
    try clear c2b0
    try clear c2b1
    try clear p2
    try clear c3
    try clear c3b0
    try clear c3b1
    try clear c5
    obtain ⟨x3_1, x4_1, rfl, HA, HK1, HO_3, HB⟩ := hrel
    cases gk with
    | zero => exact absurd HA.out (by simp [laws_toIntSS.l0])
    | succ k1 =>
     have H := HA.out
     clear HA
     simp only [laws_toIntSS.l0] at H
     by_cases c6 : x4_1 < (l0.length : Int)
     ·rw [if_pos c6] at H
      have c6b0 : decide (x4_1 < (l0.length : Int)) = true := decide_eq_true c6
      clear c6
      by_cases c7 : 0 ≤ x4_1
      ·rw [if_pos c7] at H
       have c7b0 : decide (0 ≤ x4_1) = true := decide_eq_true c7
       clear c7
       replace H := Option.bind_eq_some_iff.mp H
       obtain ⟨t114, A80, H⟩ := H
       replace H : (if x4_1 < (x3_1.length : Int) then (laws_toIntSS.l0 k1 l0 (x3_1.set (x4_1 : Int).toNat t114) (wrap64 (x4_1 + 1))) else (none)) = some r := H
       have A8 := Aside0.mk A80
       clear A80
       by_cases c9 : x4_1 < (x3_1.length : Int)
       ·rw [if_pos c9] at H
        have c9b0 : decide (x4_1 < (x3_1.length : Int)) = true := decide_eq_true c9
        clear c9
        obtain ⟨y117, hy117⟩ : ∃ y_ : List (List Int), y_ = (x3_1.set (x4_1 : Int).toNat t114) := ⟨_, rfl⟩
        replace H : (laws_toIntSS.l0 k1 l0 y117 (wrap64 (x4_1 + 1))) = some r := by first | (rw [hy117]; with_reducible exact H) | (have H2_ := (Option.bind_some _ _).symm.trans H; rw [hy117]; with_reducible exact H2_) | (have H2_ := (Option.bind_some _ _).symm.trans H; with_reducible exact H2_) | with_reducible exact H | (rw [hy117]; exact H) | exact H
        have Ny117 := Aside0.mk hy117
        clear hy117
        have H' := Aside0.mk H
        clear H
        have p113 : 0 ≤ (x4_1 : Int) := of_decide_eq_true (by first | (with_reducible assumption) | assumption)
        have q113 : x4_1 < (l0.length : Int) := of_decide_eq_true (by first | (with_reducible assumption) | assumption)
        obtain ⟨ad113, A113_0, c113_0, e113, hx113_0, hl113_0, hi113_0⟩ := at_L1 HR0.out x4_1 p113 q113
        cases e113
        replace hx113_0 := (HB.out.cell (World.block_lt_of_cell? w _ hx113_0)).trans hx113_0
        have HR113_0 := Aside0.mk hi113_0
        have HC113_0 := Aside0.mk hl113_0
        clear hi113_0 hl113_0
        replace p113 := eq_true p113
        replace q113 := eq_true q113
        go_wp2_with (first | ((with_reducible refine gate_callee (f := 21) rfl ?_); refine goesL_ (some 20) rfl rfl Try.func21 (by kernel_rfl) rfl #[.slice A113_0 (rd_L1 l0 x4_1).length c113_0] rfl (by (try simp only [List.map_toArray, List.map_cons, List.map_nil]); first | done | rfl | (simp only [List.length_drop, List.length_take]; rfl)) ?_; (with_reducible refine (laws_toIntS.calls k1 _ _ (rd_L1 l0 x4_1) t114 _ ?side1 ?side2 A8.out).mono ?_); (case side1 => repeat (first | exact (Kd.C_below HR113_0.out HB.out) | (with_reducible refine Kd.C_alloc ?_ _) | (with_reducible refine Kd.C_drewN ?_ _) | (with_reducible refine Kd.C_drew ?_))); (case side2 => exact HC113_0.out); rintro e w11 ⟨v115, rfl, ho0, hb⟩; refine ⟨_, rfl, ?_⟩; have n0_ := Aside0.mk (Kd.S_elder' (by (with_reducible repeat (first | apply Kd.S_alloc | apply Kd.S_drewN | apply Kd.S_drew)); exact HO_3.out) (Kd.R_base ho0) hb); have n1_ := Aside0.mk (Kd.R_lower ho0 (below_size (by repeat (first | (with_reducible first | exact HB.out | apply below_alloc | apply pw_below_drewN | apply below_drew1) | exact HB.out)))); have n2_ := Aside0.mk (below_step (by repeat (first | (with_reducible first | exact HB.out | apply below_alloc | apply pw_below_drewN | apply below_drew1) | exact HB.out)) hb); clear HO_3; clear HB; have HO_3 := n0_; have HO116 := n1_; have HB := n2_; clear n0_ n1_ n2_; (try clear hb); (try clear hb2); (try clear hk); (try clear hi); (try clear ho0); have p10 : 0 ≤ (x4_1 : Int) := of_decide_eq_true (by first | (with_reducible assumption) | assumption); have q10 : (x4_1 : Int) < ((x3_1.length : Int) : Int) := of_decide_eq_true (by first | (with_reducible assumption) | assumption); obtain ⟨go10, co10, eo10, gb10, gl10, cl10, HG10⟩ := Kd.S_form HO_3.out (by omega); (first | cases eo10 | (injection eo10 with ea_ en_ ec_; (first | subst ea_ | (injection ea_ with ea_; subst ea_)); subst ec_; clear en_)); have GB10 := Aside0.mk gb10; have GG10 := Aside0.mk HG10; clear gb10 gl10 HG10; obtain ⟨_, ce10, hcl10, hM10, hcc10, hfr10, _, _⟩ := Kd.S_elem HO_3.out [] (x4_1 : Int) p10 q10; obtain ⟨ve10_0, rfl, ge10_0⟩ := hM10; have hx10_0 := hcc10 0 _ rfl; have hf10_0 := hfr10 0; (try simp only [show ((Kd.slice 3 (Kd.int .i64))).sz = 1 from rfl, Nat.mul_one, Nat.add_zero] at hx10_0); (try simp only [show ((Kd.slice 3 (Kd.int .i64))).sz = 1 from rfl, Nat.mul_one, Nat.add_zero] at hf10_0); clear hcl10 hcc10 hfr10; (try clear hM10); replace p10 := eq_true p10; replace q10 := eq_true q10; have n_ := Aside0.mk (Kd.S_mono (ok' := (fun k_ => some k_ ≠ (v115 : Value).ownBlock)) HO_3.out (fun k_ hk => hk.2)); clear HO_3; have HO_3 := n_; clear n_; have HX12 := Aside0.mk (show Kd.S (Kd.slice 3 (Kd.int .i64)) 37 w11 w.heap.size (fun k_ => ((fun _ => True)) k_ ∧ ¬ ((fun k_ => some k_ = (v115 : Value).ownBlock)) k_) (.slice (some ⟨go10, 0, none⟩) x3_1.length co10) x3_1 from (by (with_reducible repeat (first | apply Kd.S_alloc | apply Kd.S_drewN | apply Kd.S_drew)); exact Kd.S_mono HO_3.out (fun k_ hk => ⟨trivial, fun e_ => hk e_⟩))); obtain ⟨oki12, ce12, hcl12, hM12, hcc12, hfr12, hoki12, hH12⟩ := Kd.S_elem HX12.out [] (x4_1 : Int) (of_decide_eq_true (by first | (with_reducible assumption) | assumption)) (by have h_ : (x4_1 : Int) < ((x3_1.length : Int) : Int) := of_decide_eq_true (by first | (with_reducible assumption) | assumption); first | exact h_ | (have e_ := (Kd.S_reads' HO_3.out).1; omega) | simpa using h_); obtain ⟨ve12_0, rfl, ge12_0⟩ := hM12; have HP12 := Kd.S_seg hH12 (of_decide_eq_true (by first | (with_reducible assumption) | assumption)) (by have h_ : (x4_1 : Int) < ((x3_1.length : Int) : Int) := of_decide_eq_true (by first | (with_reducible assumption) | assumption); first | exact h_ | (have e_ := (Kd.S_reads' HO_3.out).1; omega) | simpa using h_) (seg := [v115]) (j := 0) (show 1 ≤ 1 from by decide) (x' := t114) (Kd.M_row (Kd.R_mono (Kd.R_tight rfl (Kd.R_mono (ok' := fun k_ => ((fun _ => True)) k_ ∧ k_ ≠ go10) (Kd.R_apart' (HO116.out) (Kd.S_typed HO_3.out) (by decide)) (fun k_ hk => ⟨trivial, fun e_ => (hk.2) (by rw [e_]; rfl)⟩))) (fun _ h_ => Or.inr (h_)))) (fun _ hk => hk) (fun k_ hk_ => ((Kd.R_mono (ok' := fun k_ => ((fun _ => True)) k_ ∧ k_ ≠ go10) (Kd.R_apart' (HO116.out) (Kd.S_typed HO_3.out) (by decide)) (fun k_ hk => ⟨trivial, fun e_ => (hk.2) (by rw [e_]; rfl)⟩))).1 k_ hk_.symm); have hx12_0 := hcc12 0 _ rfl; (try simp only [show ((Kd.slice 3 (Kd.int .i64))).sz = 1 from rfl, Nat.mul_one, Nat.add_zero] at hx12_0); have hf12_0 := hfr12 0; (try simp only [show ((Kd.slice 3 (Kd.int .i64))).sz = 1 from rfl, Nat.mul_one, Nat.add_zero] at hf12_0); clear hcl12 hcc12 hfr12 hoki12 hH12; (try clear hM12); (try simp only [show ((Kd.slice 3 (Kd.int .i64))).sz = 1 from rfl, Nat.mul_one, Nat.add_zero] at HP12)) | ((with_reducible refine gate_store (t := 37) (p := 21) rfl ?_); refine store_event (t := 37) (p := 21) (v := ?vo_w13) (w1 := (w11.setCell ⟨go10, (x4_1 : Int).toNat, none⟩ (v115))) ?hg ?ho ?hn ?hr ?_; (case ho => rfl); (case hg => rfl); (case hn => rfl); (case hr => first | (go_simp; done) | (go_simp; rfl) | (obtain ⟨_, _, ev_⟩ := Kd.R_slice HO116.out; subst ev_; first | (go_simp; done) | (go_simp; rfl))); intro w13 hw; have hg : w11.grownBy w13 (some go10) := (by rw [hw]; exact HP12.2); have hp_ : Kd.S (Kd.slice 3 (Kd.int .i64)) 37 w13 w.heap.size (fun _ => True) (.slice (some ⟨go10, 0, none⟩) x3_1.length co10) y117 := (by rw [hw, Ny117.out]; exact HP12.1); clear HP12; have n0_ := Aside0.mk (hp_); have n1_ := Aside0.mk ((by rw [hw]; exact below_set (HB.out) GB10.out : Below w.heap.size w w13)); clear HO_3; clear HB; clear HO116; have HO_3 := n0_; have HB := n1_; clear n0_ n1_; clear hg hw hp_))
        go_roundg k1
        case measure => have := HK1.out; omega
        case rel => exact ⟨(y117), (wrap64 (x4_1 + 1)), (by first | rfl | (simp; done) | (simp [*]; done)), H', ⟨by have := HK1.out; omega⟩, ⟨by (with_reducible repeat (first | apply Kd.S_alloc | apply Kd.S_drewN | apply Kd.S_drew)); exact HO_3.out⟩, ⟨by repeat (first | (with_reducible first | exact HB.out | apply below_alloc | apply pw_below_drewN | apply below_drew1) | exact HB.out)⟩⟩
       ·rw [if_neg c9] at H
        exact absurd H (by simp)
      ·rw [if_neg c7] at H
       exact absurd H (by simp)
     ·rw [if_neg c6] at H
      have c6b0 : decide (x4_1 < (l0.length : Int)) = false := decide_eq_false c6
      clear c6
      obtain rfl := Option.some.inj H
      go_wp2
      go_ret
      exact ⟨_, by first | rfl | (simp [errW_none, errW_some] <;> rfl) | (simp [*, errW_none, errW_some] <;> rfl), by (with_reducible repeat (first | apply Kd.S_alloc | apply Kd.S_drewN | apply Kd.S_drew)); exact HO_3.out, by repeat (first | (with_reducible first | exact HB.out | apply below_alloc | apply pw_below_drewN | apply below_drew1) | exact HB.out)⟩
  ·rw [if_neg c3] at H
   exact absurd H (by simp)
 ·rw [if_neg c2] at H
  exact absurd H (by simp)
def laws_toCnf.f (k : Nat) (a0_0 : Int) (l0_1 : List (List Int)) : Option (Int × (List (List Int))) := (laws_toIntSS.f k l0_1).bind fun t121 => (some (a0_0, t121))
set_option maxHeartbeats 8000000 in
set_option maxRecDepth 100000 in
theorem laws_toCnf.calls (k : Nat) (a0_0 : Int) (A0_1 : Option Addr) (c0_1 : Nat) (l0_1 : List (List Int)) (r1 : Int) (r2 : List (List Int)) (w : World) (hr0_1 : Kd.C (Kd.slice 3 (Kd.int .i64)) w A0_1 l0_1.length l0_1) (hc0_1 : l0_1.length ≤ c0_1) (h : laws_toCnf.f k a0_0 l0_1 = some (r1, r2)) :
  Calls Try.prog 15 #[.agg #[.int .i64 a0_0, .slice A0_1 l0_1.length c0_1]] w fun e w' => ∃ v1_ : Value, e = .returned (.agg #[.int .i64 r1, v1_]) ∧ Kd.S (Kd.slice 3 (Kd.int .i64)) 37 w' w.heap.size (fun _ => True) v1_ r2 ∧ Below w.heap.size w w' := by
 have hu24 := Try.underlying24
 have hu30 := Try.underlying30
 have HR0_1 := Aside0.mk hr0_1
 have HC0_1 := Aside0.mk hc0_1
 clear hr0_1 hc0_1
 have HB := Aside0.mk (Below.refl w.heap.size w)
 have H : ((laws_toIntSS.f k l0_1).bind fun t121 => (some (a0_0, t121))) = some (r1, r2) := h
 clear h
 replace H := Option.bind_eq_some_iff.mp H
 obtain ⟨t121, A20, H⟩ := H
 replace H : (some (a0_0, t121)) = some (r1, r2) := H
 have A2 := Aside0.mk A20
 clear A20
 simp only [Option.some.injEq, Prod.mk.injEq] at H
 obtain ⟨rfl, rfl⟩ := H
 go_enter Try.func15, Try.ntmps15
 go_wp2_with (first | ((with_reducible refine gate_dst (N := 1) rfl ?_); refine box_event ?hg (N := 1) ?hd (cs := #[.int .i64 a0_0, .slice A0_1 l0_1.length c0_1]) (t := 24) ?hr ?_; (case hd => rfl); (case hg => rfl); (case hr => first | (go_simp; done) | (go_simp; rfl)); intro gb118 hg w3 hbox hb; have n0_ := Aside0.mk (below_step (by repeat (first | (with_reducible first | exact HB.out | apply below_alloc | apply pw_below_drewN | apply below_drew1) | exact HB.out)) hb); have n1_ := Aside0.mk (hbox); have n2_ := Aside0.mk ((by rw [hg]; exact (below_size (by repeat (first | (with_reducible first | exact HB.out | apply below_alloc | apply pw_below_drewN | apply below_drew1) | exact HB.out))) : w.heap.size ≤ gb118)); have n3_ := Aside0.mk ((by rw [hg]; exact (below_size (by repeat (first | (with_reducible first | exact HB.out | apply below_alloc | apply pw_below_drewN | apply below_drew1) | exact HB.out))) : w.heap.size ≤ gb118)); clear HB; have HB := n0_; have BK118 := n1_; have GW118 := n2_; have GE118 := n3_; clear n0_ n1_ n2_ n3_; clear hb hbox hg) | ((with_reducible refine gate_dst (N := 2) rfl ?_); refine box_event ?hg (N := 2) ?hd (cs := #[.int .i64 0, .slice none 0 0]) (t := 30) ?hr ?_; (case hd => rfl); (case hg => rfl); (case hr => first | (go_simp; done) | (go_simp; rfl)); intro gb119 hg w4 hbox hb; have n0_ := Aside0.mk (blk_below (g := gb118) (o := .cells #[.int .i64 a0_0, .slice A0_1 l0_1.length c0_1] 24 (0, 0)) (by (with_reducible repeat (first | refine blk_drewN ?_ _ | refine blk_drew ?_ | refine blk_alloc ?_ _)); exact BK118.out) hb); have n1_ := Aside0.mk (below_step (by repeat (first | (with_reducible first | exact HB.out | apply below_alloc | apply pw_below_drewN | apply below_drew1 | refine below_set ?_ GE118.out) | exact HB.out)) hb); have n2_ := Aside0.mk (hbox); have n3_ := Aside0.mk ((by rw [hg]; exact (below_size (by repeat (first | (with_reducible first | exact HB.out | apply below_alloc | apply pw_below_drewN | apply below_drew1 | refine below_set ?_ GE118.out) | exact HB.out))) : w.heap.size ≤ gb119)); have n4_ := Aside0.mk ((by rw [hg]; exact (below_size (by repeat (first | (with_reducible first | exact HB.out | apply below_alloc | apply pw_below_drewN | apply below_drew1 | refine below_set ?_ GE118.out) | exact HB.out))) : w.heap.size ≤ gb119)); have n5_ := Aside0.mk ((by rw [hg]; exact Nat.ne_of_lt (blk_lt (g := gb118) (o := .cells #[.int .i64 a0_0, .slice A0_1 l0_1.length c0_1] 24 (0, 0)) (by (with_reducible repeat (first | refine blk_drewN ?_ _ | refine blk_drew ?_ | refine blk_alloc ?_ _)); exact BK118.out)) : gb118 ≠ gb119)); have n6_ := Aside0.mk ((by rw [hg]; exact Nat.ne_of_gt (blk_lt (g := gb118) (o := .cells #[.int .i64 a0_0, .slice A0_1 l0_1.length c0_1] 24 (0, 0)) (by (with_reducible repeat (first | refine blk_drewN ?_ _ | refine blk_drew ?_ | refine blk_alloc ?_ _)); exact BK118.out)) : gb119 ≠ gb118)); clear BK118; clear HB; have BK118 := n0_; have HB := n1_; have BK119 := n2_; have GW119 := n3_; have GE119 := n4_; have NB118_119 := n5_; have NB119_118 := n6_; clear n0_ n1_ n2_ n3_ n4_ n5_ n6_; clear hb hbox hg) | ((with_reducible refine gate_dst (N := 3) rfl ?_); refine box_event ?hg (N := 3) ?hd (cs := #[.int .i64 0, .slice none 0 0]) (t := 30) ?hr ?_; (case hd => rfl); (case hg => rfl); (case hr => first | (go_simp; done) | (go_simp; rfl)); intro gb120 hg w5 hbox hb; have n0_ := Aside0.mk (blk_below (g := gb118) (o := .cells #[.int .i64 a0_0, .slice A0_1 l0_1.length c0_1] 24 (0, 0)) (by (with_reducible repeat (first | refine blk_drewN ?_ _ | refine blk_drew ?_ | refine blk_alloc ?_ _)); exact BK118.out) hb); have n1_ := Aside0.mk (blk_below (g := gb119) (o := .cells #[.int .i64 0, .slice none 0 0] 30 (0, 0)) (by (with_reducible repeat (first | refine blk_drewN ?_ _ | refine blk_drew ?_ | refine blk_alloc ?_ _)); exact BK119.out) hb); have n2_ := Aside0.mk (below_step (by repeat (first | (with_reducible first | exact HB.out | apply below_alloc | apply pw_below_drewN | apply below_drew1 | refine below_set ?_ GE118.out | refine below_set ?_ GE119.out) | exact HB.out)) hb); have n3_ := Aside0.mk (hbox); have n4_ := Aside0.mk ((by rw [hg]; exact (below_size (by repeat (first | (with_reducible first | exact HB.out | apply below_alloc | apply pw_below_drewN | apply below_drew1 | refine below_set ?_ GE118.out | refine below_set ?_ GE119.out) | exact HB.out))) : w.heap.size ≤ gb120)); have n5_ := Aside0.mk ((by rw [hg]; exact (below_size (by repeat (first | (with_reducible first | exact HB.out | apply below_alloc | apply pw_below_drewN | apply below_drew1 | refine below_set ?_ GE118.out | refine below_set ?_ GE119.out) | exact HB.out))) : w.heap.size ≤ gb120)); have n6_ := Aside0.mk ((by rw [hg]; exact Nat.ne_of_lt (blk_lt (g := gb118) (o := .cells #[.int .i64 a0_0, .slice A0_1 l0_1.length c0_1] 24 (0, 0)) (by (with_reducible repeat (first | refine blk_drewN ?_ _ | refine blk_drew ?_ | refine blk_alloc ?_ _)); exact BK118.out)) : gb118 ≠ gb120)); have n7_ := Aside0.mk ((by rw [hg]; exact Nat.ne_of_gt (blk_lt (g := gb118) (o := .cells #[.int .i64 a0_0, .slice A0_1 l0_1.length c0_1] 24 (0, 0)) (by (with_reducible repeat (first | refine blk_drewN ?_ _ | refine blk_drew ?_ | refine blk_alloc ?_ _)); exact BK118.out)) : gb120 ≠ gb118)); have n8_ := Aside0.mk ((by rw [hg]; exact Nat.ne_of_lt (blk_lt (g := gb119) (o := .cells #[.int .i64 0, .slice none 0 0] 30 (0, 0)) (by (with_reducible repeat (first | refine blk_drewN ?_ _ | refine blk_drew ?_ | refine blk_alloc ?_ _)); exact BK119.out)) : gb119 ≠ gb120)); have n9_ := Aside0.mk ((by rw [hg]; exact Nat.ne_of_gt (blk_lt (g := gb119) (o := .cells #[.int .i64 0, .slice none 0 0] 30 (0, 0)) (by (with_reducible repeat (first | refine blk_drewN ?_ _ | refine blk_drew ?_ | refine blk_alloc ?_ _)); exact BK119.out)) : gb120 ≠ gb119)); clear BK118; clear BK119; clear HB; have BK118 := n0_; have BK119 := n1_; have HB := n2_; have BK120 := n3_; have GW120 := n4_; have GE120 := n5_; have NB118_120 := n6_; have NB120_118 := n7_; have NB119_120 := n8_; have NB120_119 := n9_; clear n0_ n1_ n2_ n3_ n4_ n5_ n6_ n7_ n8_ n9_; clear hb hbox hg; have hnb6 := NB118_119.out; have hnc6 := NB119_118.out; have hnb7 := NB118_120.out; have hnc7 := NB120_118.out; have hcz8_0 : w5.cell? ⟨gb118, 0, none⟩ = some (.int .i64 a0_0) := (blk_cell BK118.out 0).trans rfl; have hcz8_1 : w5.cell? ⟨gb118, 1, none⟩ = some (.slice A0_1 l0_1.length c0_1) := (blk_cell BK118.out 1).trans rfl; have hfz8_0 := blk_frozen BK118.out 0; have hfz8_1 := blk_frozen BK118.out 1; have hnb9 := NB120_119.out; have hnc9 := NB119_120.out; have hcz10_0 : w5.cell? ⟨gb120, 0, none⟩ = some (.int .i64 0) := (blk_cell BK120.out 0).trans rfl; have hcz10_1 : w5.cell? ⟨gb120, 1, none⟩ = some (.slice none 0 0) := (blk_cell BK120.out 1).trans rfl; have hfz10_0 := blk_frozen BK120.out 0; have hfz10_1 := blk_frozen BK120.out 1) | ((with_reducible refine gate_callee (f := 52) rfl ?_); refine goesL_ (some 9) rfl rfl Try.func52 (by kernel_rfl) rfl #[.slice A0_1 l0_1.length c0_1] rfl (by (try simp only [List.map_toArray, List.map_cons, List.map_nil]); first | done | rfl | (simp only [List.length_drop, List.length_take]; rfl)) ?_; (with_reducible refine (laws_toIntSS.calls k _ _ l0_1 t121 _ ?side1 ?side2 A2.out).mono ?_); (case side1 => exact Kd.C_below HR0_1.out (by repeat (first | (with_reducible first | exact HB.out | apply below_alloc | apply pw_below_drewN | apply below_drew1 | refine below_set ?_ GE118.out | refine below_set ?_ GE119.out | refine below_set ?_ GE120.out) | exact HB.out))); (case side2 => exact HC0_1.out); rintro e w11 ⟨v122, rfl, ho0, hb⟩; refine ⟨_, rfl, ?_⟩; have n0_ := Aside0.mk (Kd.S_lower ho0 (below_size (by repeat (first | (with_reducible first | exact HB.out | apply below_alloc | apply pw_below_drewN | apply below_drew1 | refine below_set ?_ GE118.out | refine below_set ?_ GE119.out | refine below_set ?_ GE120.out) | exact HB.out)))); have n1_ := Aside0.mk (blk_below (g := gb118) (o := .cells #[.int .i64 a0_0, .slice A0_1 l0_1.length c0_1] 24 (0, 0)) (by (with_reducible repeat (first | refine blk_drewN ?_ _ | refine blk_drew ?_ | refine blk_alloc ?_ _)); refine blk_far ?_ NB118_120.out _; (with_reducible repeat (first | refine blk_drewN ?_ _ | refine blk_drew ?_ | refine blk_alloc ?_ _)); exact BK118.out) hb); have n2_ := Aside0.mk (blk_below (g := gb119) (o := .cells #[.int .i64 0, .slice none 0 0] 30 (0, 0)) (by (with_reducible repeat (first | refine blk_drewN ?_ _ | refine blk_drew ?_ | refine blk_alloc ?_ _)); refine blk_far ?_ NB119_120.out _; (with_reducible repeat (first | refine blk_drewN ?_ _ | refine blk_drew ?_ | refine blk_alloc ?_ _)); exact BK119.out) hb); have n3_ := Aside0.mk (blk_below (g := gb120) (o := .cells #[.int .i64 a0_0, .slice none 0 0] 30 (0, 0)) (by (with_reducible repeat (first | refine blk_drewN ?_ _ | refine blk_drew ?_ | refine blk_alloc ?_ _)); refine blk_put (cs := #[.int .i64 0, .slice none 0 0]) ?_ 0 _ rfl; (with_reducible repeat (first | refine blk_drewN ?_ _ | refine blk_drew ?_ | refine blk_alloc ?_ _)); exact BK120.out) hb); have n4_ := Aside0.mk (below_step (by repeat (first | (with_reducible first | exact HB.out | apply below_alloc | apply pw_below_drewN | apply below_drew1 | refine below_set ?_ GE118.out | refine below_set ?_ GE119.out | refine below_set ?_ GE120.out) | exact HB.out)) hb); clear BK118; clear BK119; clear BK120; clear HB; have HO123 := n0_; have BK118 := n1_; have BK119 := n2_; have BK120 := n3_; have HB := n4_; clear n0_ n1_ n2_ n3_ n4_; (try clear hb); (try clear hb2); (try clear hk); (try clear hi); (try clear ho0); obtain ⟨Ao12, co12, eo12⟩ := Kd.S_slice HO123.out; subst eo12; have hcz13_0 : w11.cell? ⟨gb120, 0, none⟩ = some (.int .i64 a0_0) := (blk_cell BK120.out 0).trans rfl; have hcz13_1 : w11.cell? ⟨gb120, 1, none⟩ = some (.slice none 0 0) := (blk_cell BK120.out 1).trans rfl; have hfz13_0 := blk_frozen BK120.out 0; have hfz13_1 := blk_frozen BK120.out 1; have hcz14_0 : w11.cell? ⟨gb119, 0, none⟩ = some (.int .i64 0) := (blk_cell BK119.out 0).trans rfl; have hcz14_1 : w11.cell? ⟨gb119, 1, none⟩ = some (.slice none 0 0) := (blk_cell BK119.out 1).trans rfl; have hfz14_0 := blk_frozen BK119.out 0; have hfz14_1 := blk_frozen BK119.out 1))
 refine bodyPost_ret (results_cell_row rfl _ _ gb119 30 #[.int .i64 a0_0, .slice Ao12 t121.length co12] (0, 0) _ rfl (by (with_reducible repeat (first | refine blk_drewN ?_ _ | refine blk_drew ?_ | refine blk_alloc ?_ _)); refine blk_put (cs := #[.int .i64 a0_0, .slice none 0 0]) ?_ 1 _ rfl; (with_reducible repeat (first | refine blk_drewN ?_ _ | refine blk_drew ?_ | refine blk_alloc ?_ _)); refine blk_put (cs := #[.int .i64 0, .slice none 0 0]) ?_ 0 _ rfl; (with_reducible repeat (first | refine blk_drewN ?_ _ | refine blk_drew ?_ | refine blk_alloc ?_ _)); refine blk_far ?_ NB119_120.out _; (with_reducible repeat (first | refine blk_drewN ?_ _ | refine blk_drew ?_ | refine blk_alloc ?_ _)); exact BK119.out) Try.underlying30 rfl (by kernel_rfl)) rfl ?_
 exact ⟨_, by first | rfl | (simp [errW_none, errW_some] <;> rfl) | (simp [*, errW_none, errW_some] <;> rfl), by (with_reducible repeat (first | apply Kd.S_alloc | apply Kd.S_drewN | apply Kd.S_drew)); exact Kd.S_mono (Kd.S_far (p := ⟨gb119, 1, none⟩) (Kd.S_far (p := ⟨gb119, 0, none⟩) (Kd.S_far (p := ⟨gb120, 1, none⟩) (Kd.S_types (Kd.S_types HO123.out BK120.out (by decide)) BK119.out (by decide)) (fun _ hk => hk.1.2) (.slice Ao12 t121.length co12)) (fun _ hk => hk.2) (.int .i64 a0_0)) (fun _ hk => hk.2) (.slice Ao12 t121.length co12)) (fun _ hk => trivial), by repeat (first | (with_reducible first | exact HB.out | apply below_alloc | apply pw_below_drewN | apply below_drew1 | refine below_set ?_ GE118.out | refine below_set ?_ GE119.out | refine below_set ?_ GE120.out) | exact HB.out)⟩
def laws_eqIntS.l0 : Nat → List Int → List Int → Int → Option (Bool)
 | 0, _, _, _ => none
 | k + 1, x0, x1, x5 => if x5 < (x0.length : Int) then (if 0 ≤ x5 then (if x5 < (x1.length : Int) then (if (rd x0 x5) = (rd x1 x5) then (laws_eqIntS.l0 k x0 x1 (wrap64 (x5 + 1))) else (some false)) else (none)) else (none)) else (some true)
def laws_eqIntS.f (k : Nat) (l0 : List Int) (l1 : List Int) : Option (Bool) := if (l0.length : Int) = (l1.length : Int) then (laws_eqIntS.l0 k l0 l1 0) else (some false)
set_option maxHeartbeats 8000000 in
set_option maxRecDepth 100000 in
theorem laws_eqIntS.calls (k : Nat) (A0 : Option Addr) (c0 : Nat) (l0 : List Int) (A1 : Option Addr) (c1 : Nat) (l1 : List Int) (r : Bool) (w : World) (hr0 : Kd.C (Kd.int .i64) w A0 l0.length l0) (hc0 : l0.length ≤ c0) (hr1 : Kd.C (Kd.int .i64) w A1 l1.length l1) (hc1 : l1.length ≤ c1) (h : laws_eqIntS.f k l0 l1 = some r) :
  Calls Try.prog 23 #[.slice A0 l0.length c0, .slice A1 l1.length c1] w fun e w' => e = .returned (.bool r) ∧ Drawn0 w w' := by
 have HR0 := Aside0.mk hr0
 have HC0 := Aside0.mk hc0
 clear hr0 hc0
 have HR1 := Aside0.mk hr1
 have HC1 := Aside0.mk hc1
 clear hr1 hc1
 have H : (if (l0.length : Int) = (l1.length : Int) then (laws_eqIntS.l0 k l0 l1 0) else (some false)) = some r := h
 clear h
 by_cases c3 : (l0.length : Int) = (l1.length : Int)
 ·rw [if_pos c3] at H
  have c3b0 : ((l0.length : Int) == (l1.length : Int)) = true := beq_iff_eq.mpr c3
  have c3b1 : ((l0.length : Int) != (l1.length : Int)) = false := bne_eq_false_iff_eq.mpr c3
  have c3b2 : (l0.length == l1.length) = true := by first | simpa using c3 | (simp at c3 ⊢; omega)
  clear c3
  have H' := Aside0.mk H
  clear H
  go_enter Try.func23, Try.ntmps23
  go_wp2
  repeat (go_quiet (fail); try go_wp2)
  go_loopg [5] k (fun kq v5 w' => ∃ (x5_1 : Int), v5 = .int .i64 x5_1 ∧ Aside0 (laws_eqIntS.l0 kq l0 l1 x5_1 = some r) ∧ Aside0 (kq ≤ k) ∧ Drawn0 w w')
  case atStart => exact ⟨(0), (by first | rfl | (simp; done) | (simp [*]; done)), H', ⟨Nat.le_refl _⟩, by repeat (first | exact Drawn0.refl _ | apply Drawn0.step)⟩
  case round =>
   clear H'
   try clear c1
   try clear c2
   try clear p2
   try clear c3
   try clear c3b0
   try clear c3b1
   try clear c3b2
   obtain ⟨x5_1, rfl, HA, HK1, ⟨m1, rfl⟩⟩ := hrel
   cases gk with
   | zero => exact absurd HA.out (by simp [laws_eqIntS.l0])
   | succ k1 =>
    have H := HA.out
    clear HA
    simp only [laws_eqIntS.l0] at H
    by_cases c4 : x5_1 < (l0.length : Int)
    ·rw [if_pos c4] at H
     have c4b0 : decide (x5_1 < (l0.length : Int)) = true := decide_eq_true c4
     clear c4
     by_cases c5 : 0 ≤ x5_1
     ·rw [if_pos c5] at H
      have c5b0 : decide (0 ≤ x5_1) = true := decide_eq_true c5
      clear c5
      by_cases c6 : x5_1 < (l1.length : Int)
      ·rw [if_pos c6] at H
       have c6b0 : decide (x5_1 < (l1.length : Int)) = true := decide_eq_true c6
       clear c6
       by_cases c7 : (rd l0 x5_1) = (rd l1 x5_1)
       ·rw [if_pos c7] at H
        have c7b0 : ((rd l0 x5_1) == (rd l1 x5_1)) = true := beq_iff_eq.mpr c7
        have c7b1 : ((rd l0 x5_1) != (rd l1 x5_1)) = false := bne_eq_false_iff_eq.mpr c7
        clear c7
        have H' := Aside0.mk H
        clear H
        have p124 : 0 ≤ (x5_1 : Int) := of_decide_eq_true (by first | (with_reducible assumption) | assumption)
        have q124 : x5_1 < (l0.length : Int) := of_decide_eq_true (by first | (with_reducible assumption) | assumption)
        obtain ⟨ad124, e124, hx124_0⟩ := Kd.at_int HR0.out x5_1 p124 q124
        cases e124
        replace p124 := eq_true p124
        replace q124 := eq_true q124
        have p125 : 0 ≤ (x5_1 : Int) := of_decide_eq_true (by first | (with_reducible assumption) | assumption)
        have q125 : x5_1 < (l1.length : Int) := of_decide_eq_true (by first | (with_reducible assumption) | assumption)
        obtain ⟨ad125, e125, hx125_0⟩ := Kd.at_int HR1.out x5_1 p125 q125
        cases e125
        replace p125 := eq_true p125
        replace q125 := eq_true q125
        go_wp2
        repeat (go_quiet (fail); try go_wp2)
        go_roundg k1
        case measure => have := HK1.out; omega
        case rel => exact ⟨(wrap64 (x5_1 + 1)), (by first | rfl | (simp; done) | (simp [*]; done)), H', ⟨by have := HK1.out; omega⟩, by repeat (first | exact Drawn0.refl _ | apply Drawn0.step)⟩
       ·rw [if_neg c7] at H
        have c7b0 : ((rd l0 x5_1) == (rd l1 x5_1)) = false := beq_eq_false_iff_ne.mpr c7
        have c7b1 : ((rd l0 x5_1) != (rd l1 x5_1)) = true := bne_iff_ne.mpr c7
        obtain rfl := Option.some.inj H
        have p124 : 0 ≤ (x5_1 : Int) := of_decide_eq_true (by first | (with_reducible assumption) | assumption)
        have q124 : x5_1 < (l0.length : Int) := of_decide_eq_true (by first | (with_reducible assumption) | assumption)
        obtain ⟨ad124, e124, hx124_0⟩ := Kd.at_int HR0.out x5_1 p124 q124
        cases e124
        replace p124 := eq_true p124
        replace q124 := eq_true q124
        have p125 : 0 ≤ (x5_1 : Int) := of_decide_eq_true (by first | (with_reducible assumption) | assumption)
        have q125 : x5_1 < (l1.length : Int) := of_decide_eq_true (by first | (with_reducible assumption) | assumption)
        obtain ⟨ad125, e125, hx125_0⟩ := Kd.at_int HR1.out x5_1 p125 q125
        cases e125
        replace p125 := eq_true p125
        replace q125 := eq_true q125
        go_wp2
        repeat (go_quiet (fail); try go_wp2)
        go_ret
        exact ⟨by first | rfl | (simp; done) | (simp [*]; done), by repeat (first | exact Drawn0.refl _ | apply Drawn0.step)⟩
      ·rw [if_neg c6] at H
       exact absurd H (by simp)
     ·rw [if_neg c5] at H
      exact absurd H (by simp)
    ·rw [if_neg c4] at H
     have c4b0 : decide (x5_1 < (l0.length : Int)) = false := decide_eq_false c4
     clear c4
     obtain rfl := Option.some.inj H
     go_wp2
     repeat (go_quiet (fail); try go_wp2)
     go_ret
     exact ⟨by first | rfl | (simp; done) | (simp [*]; done), by repeat (first | exact Drawn0.refl _ | apply Drawn0.step)⟩
 ·rw [if_neg c3] at H
  have c3b0 : ((l0.length : Int) == (l1.length : Int)) = false := beq_eq_false_iff_ne.mpr c3
  have c3b1 : ((l0.length : Int) != (l1.length : Int)) = true := bne_iff_ne.mpr c3
  have c3b2 : (l0.length == l1.length) = false := by first | simpa using c3 | (simp at c3 ⊢; omega)
  obtain rfl := Option.some.inj H
  go_enter Try.func23, Try.ntmps23
  go_wp2
  repeat (go_quiet (fail); try go_wp2)
  go_ret
  exact ⟨by first | rfl | (simp; done) | (simp [*]; done), by repeat (first | exact Drawn0.refl _ | apply Drawn0.step)⟩
def laws_eqIntSS.l0 : Nat → List (List Int) → List (List Int) → Int → Option (Bool)
 | 0, _, _, _ => none
 | k + 1, x0, x1, x5 => if x5 < (x0.length : Int) then (if 0 ≤ x5 then (if x5 < (x1.length : Int) then ((laws_eqIntS.f k (rd_L1 x0 x5) (rd_L1 x1 x5)).bind fun t128 => (if t128 = true then (laws_eqIntSS.l0 k x0 x1 (wrap64 (x5 + 1))) else (some false))) else (none)) else (none)) else (some true)
def laws_eqIntSS.f (k : Nat) (l0 : List (List Int)) (l1 : List (List Int)) : Option (Bool) := if (l0.length : Int) = (l1.length : Int) then (laws_eqIntSS.l0 k l0 l1 0) else (some false)
set_option maxHeartbeats 8000000 in
set_option maxRecDepth 100000 in
theorem laws_eqIntSS.calls (k : Nat) (A0 : Option Addr) (c0 : Nat) (l0 : List (List Int)) (A1 : Option Addr) (c1 : Nat) (l1 : List (List Int)) (r : Bool) (w : World) (hr0 : Kd.C (Kd.slice 3 (Kd.int .i64)) w A0 l0.length l0) (hc0 : l0.length ≤ c0) (hr1 : Kd.C (Kd.slice 3 (Kd.int .i64)) w A1 l1.length l1) (hc1 : l1.length ≤ c1) (h : laws_eqIntSS.f k l0 l1 = some r) :
  Calls Try.prog 57 #[.slice A0 l0.length c0, .slice A1 l1.length c1] w fun e w' => e = .returned (.bool r) ∧ Drawn0 w w' := by
 have HR0 := Aside0.mk hr0
 have HC0 := Aside0.mk hc0
 clear hr0 hc0
 have HR1 := Aside0.mk hr1
 have HC1 := Aside0.mk hc1
 clear hr1 hc1
 have H : (if (l0.length : Int) = (l1.length : Int) then (laws_eqIntSS.l0 k l0 l1 0) else (some false)) = some r := h
 clear h
 by_cases c3 : (l0.length : Int) = (l1.length : Int)
 ·rw [if_pos c3] at H
  have c3b0 : ((l0.length : Int) == (l1.length : Int)) = true := beq_iff_eq.mpr c3
  have c3b1 : ((l0.length : Int) != (l1.length : Int)) = false := bne_eq_false_iff_eq.mpr c3
  have c3b2 : (l0.length == l1.length) = true := by first | simpa using c3 | (simp at c3 ⊢; omega)
  clear c3
  have H' := Aside0.mk H
  clear H
  go_enter Try.func57, Try.ntmps57
  go_wp2
  repeat (go_quiet (fail); try go_wp2)
  go_loopg [5] k (fun kq v5 w' => ∃ (x5_1 : Int), v5 = .int .i64 x5_1 ∧ Aside0 (laws_eqIntSS.l0 kq l0 l1 x5_1 = some r) ∧ Aside0 (kq ≤ k) ∧ Drawn0 w w')
  case atStart => exact ⟨(0), (by first | rfl | (simp; done) | (simp [*]; done)), H', ⟨Nat.le_refl _⟩, by repeat (first | exact Drawn0.refl _ | apply Drawn0.step)⟩
  case round =>
   clear H'
   try clear c1
   try clear p2
   try clear c3
   try clear c3b0
   try clear c3b1
   try clear c3b2
   obtain ⟨x5_1, rfl, HA, HK1, ⟨m1, rfl⟩⟩ := hrel
   cases gk with
   | zero => exact absurd HA.out (by simp [laws_eqIntSS.l0])
   | succ k1 =>
    have H := HA.out
    clear HA
    simp only [laws_eqIntSS.l0] at H
    by_cases c4 : x5_1 < (l0.length : Int)
    ·rw [if_pos c4] at H
     have c4b0 : decide (x5_1 < (l0.length : Int)) = true := decide_eq_true c4
     clear c4
     by_cases c5 : 0 ≤ x5_1
     ·rw [if_pos c5] at H
      have c5b0 : decide (0 ≤ x5_1) = true := decide_eq_true c5
      clear c5
      by_cases c6 : x5_1 < (l1.length : Int)
      ·rw [if_pos c6] at H
       have c6b0 : decide (x5_1 < (l1.length : Int)) = true := decide_eq_true c6
       clear c6
       replace H := Option.bind_eq_some_iff.mp H
       obtain ⟨t128, A70, H⟩ := H
       replace H : (if t128 = true then (laws_eqIntSS.l0 k1 l0 l1 (wrap64 (x5_1 + 1))) else (some false)) = some r := H
       have A7 := Aside0.mk A70
       clear A70
       by_cases c8 : t128 = true
       ·subst c8
        have H1 : (laws_eqIntSS.l0 k1 l0 l1 (wrap64 (x5_1 + 1))) = some r := by rw [if_pos rfl] at H; exact H
        clear H
        have H := H1
        clear H1
        have H' := Aside0.mk H
        clear H
        have p126 : 0 ≤ (x5_1 : Int) := of_decide_eq_true (by first | (with_reducible assumption) | assumption)
        have q126 : x5_1 < (l0.length : Int) := of_decide_eq_true (by first | (with_reducible assumption) | assumption)
        obtain ⟨ad126, A126_0, c126_0, e126, hx126_0, hl126_0, hi126_0⟩ := at_L1 HR0.out x5_1 p126 q126
        cases e126
        have HR126_0 := Aside0.mk hi126_0
        have HC126_0 := Aside0.mk hl126_0
        clear hi126_0 hl126_0
        replace p126 := eq_true p126
        replace q126 := eq_true q126
        have p127 : 0 ≤ (x5_1 : Int) := of_decide_eq_true (by first | (with_reducible assumption) | assumption)
        have q127 : x5_1 < (l1.length : Int) := of_decide_eq_true (by first | (with_reducible assumption) | assumption)
        obtain ⟨ad127, A127_0, c127_0, e127, hx127_0, hl127_0, hi127_0⟩ := at_L1 HR1.out x5_1 p127 q127
        cases e127
        have HR127_0 := Aside0.mk hi127_0
        have HC127_0 := Aside0.mk hl127_0
        clear hi127_0 hl127_0
        replace p127 := eq_true p127
        replace q127 := eq_true q127
        go_wp2_with (first | (go_at_call 23; (with_reducible refine (laws_eqIntS.calls k1 _ _ (rd_L1 l0 x5_1) _ _ (rd_L1 l1 x5_1) true _ ?side1 ?side2 ?side3 ?side4 A7.out).mono ?_); (case side1 => repeat (first | exact HR126_0.out | (with_reducible refine Kd.C_alloc ?_ _) | (with_reducible refine Kd.C_drewN ?_ _) | (with_reducible refine Kd.C_drew ?_))); (case side2 => exact HC126_0.out); (case side3 => repeat (first | exact HR127_0.out | (with_reducible refine Kd.C_alloc ?_ _) | (with_reducible refine Kd.C_drewN ?_ _) | (with_reducible refine Kd.C_drew ?_))); (case side4 => exact HC127_0.out); rintro e w' ⟨rfl, ⟨nd, rfl⟩⟩; (try first | exact ⟨rfl, _, World.drewN_drewN _ _ _⟩ | exact ⟨rfl, _, Eq.trans (World.drewN_drewN _ _ _) (congrArg (World.drewN _) (Nat.add_assoc _ _ _))⟩)))
        repeat (go_quiet (first | (go_at_call 23; (with_reducible refine (laws_eqIntS.calls k1 _ _ (rd_L1 l0 x5_1) _ _ (rd_L1 l1 x5_1) true _ ?side1 ?side2 ?side3 ?side4 A7.out).mono ?_); (case side1 => repeat (first | exact HR126_0.out | (with_reducible refine Kd.C_alloc ?_ _) | (with_reducible refine Kd.C_drewN ?_ _) | (with_reducible refine Kd.C_drew ?_))); (case side2 => exact HC126_0.out); (case side3 => repeat (first | exact HR127_0.out | (with_reducible refine Kd.C_alloc ?_ _) | (with_reducible refine Kd.C_drewN ?_ _) | (with_reducible refine Kd.C_drew ?_))); (case side4 => exact HC127_0.out); rintro e w' ⟨rfl, ⟨nd, rfl⟩⟩; (try first | exact ⟨rfl, _, World.drewN_drewN _ _ _⟩ | exact ⟨rfl, _, Eq.trans (World.drewN_drewN _ _ _) (congrArg (World.drewN _) (Nat.add_assoc _ _ _))⟩))); try go_wp2_with (first | (go_at_call 23; (with_reducible refine (laws_eqIntS.calls k1 _ _ (rd_L1 l0 x5_1) _ _ (rd_L1 l1 x5_1) true _ ?side1 ?side2 ?side3 ?side4 A7.out).mono ?_); (case side1 => repeat (first | exact HR126_0.out | (with_reducible refine Kd.C_alloc ?_ _) | (with_reducible refine Kd.C_drewN ?_ _) | (with_reducible refine Kd.C_drew ?_))); (case side2 => exact HC126_0.out); (case side3 => repeat (first | exact HR127_0.out | (with_reducible refine Kd.C_alloc ?_ _) | (with_reducible refine Kd.C_drewN ?_ _) | (with_reducible refine Kd.C_drew ?_))); (case side4 => exact HC127_0.out); rintro e w' ⟨rfl, ⟨nd, rfl⟩⟩; (try first | exact ⟨rfl, _, World.drewN_drewN _ _ _⟩ | exact ⟨rfl, _, Eq.trans (World.drewN_drewN _ _ _) (congrArg (World.drewN _) (Nat.add_assoc _ _ _))⟩))))
        go_roundg k1
        case measure => have := HK1.out; omega
        case rel => exact ⟨(wrap64 (x5_1 + 1)), (by first | rfl | (simp; done) | (simp [*]; done)), H', ⟨by have := HK1.out; omega⟩, by repeat (first | exact Drawn0.refl _ | apply Drawn0.step)⟩
       ·replace c8 := Bool.eq_false_iff.mpr c8
        subst c8
        have H1 : (some false) = some r := by rw [if_neg (show ¬ (false = true) by decide)] at H; exact H
        clear H
        have H := H1
        clear H1
        obtain rfl := Option.some.inj H
        have p126 : 0 ≤ (x5_1 : Int) := of_decide_eq_true (by first | (with_reducible assumption) | assumption)
        have q126 : x5_1 < (l0.length : Int) := of_decide_eq_true (by first | (with_reducible assumption) | assumption)
        obtain ⟨ad126, A126_0, c126_0, e126, hx126_0, hl126_0, hi126_0⟩ := at_L1 HR0.out x5_1 p126 q126
        cases e126
        have HR126_0 := Aside0.mk hi126_0
        have HC126_0 := Aside0.mk hl126_0
        clear hi126_0 hl126_0
        replace p126 := eq_true p126
        replace q126 := eq_true q126
        have p127 : 0 ≤ (x5_1 : Int) := of_decide_eq_true (by first | (with_reducible assumption) | assumption)
        have q127 : x5_1 < (l1.length : Int) := of_decide_eq_true (by first | (with_reducible assumption) | assumption)
        obtain ⟨ad127, A127_0, c127_0, e127, hx127_0, hl127_0, hi127_0⟩ := at_L1 HR1.out x5_1 p127 q127
        cases e127
        have HR127_0 := Aside0.mk hi127_0
        have HC127_0 := Aside0.mk hl127_0
        clear hi127_0 hl127_0
        replace p127 := eq_true p127
        replace q127 := eq_true q127
        go_wp2_with (first | (go_at_call 23; (with_reducible refine (laws_eqIntS.calls k1 _ _ (rd_L1 l0 x5_1) _ _ (rd_L1 l1 x5_1) false _ ?side1 ?side2 ?side3 ?side4 A7.out).mono ?_); (case side1 => repeat (first | exact HR126_0.out | (with_reducible refine Kd.C_alloc ?_ _) | (with_reducible refine Kd.C_drewN ?_ _) | (with_reducible refine Kd.C_drew ?_))); (case side2 => exact HC126_0.out); (case side3 => repeat (first | exact HR127_0.out | (with_reducible refine Kd.C_alloc ?_ _) | (with_reducible refine Kd.C_drewN ?_ _) | (with_reducible refine Kd.C_drew ?_))); (case side4 => exact HC127_0.out); rintro e w' ⟨rfl, ⟨nd, rfl⟩⟩; (try first | exact ⟨rfl, _, World.drewN_drewN _ _ _⟩ | exact ⟨rfl, _, Eq.trans (World.drewN_drewN _ _ _) (congrArg (World.drewN _) (Nat.add_assoc _ _ _))⟩)))
        repeat (go_quiet (first | (go_at_call 23; (with_reducible refine (laws_eqIntS.calls k1 _ _ (rd_L1 l0 x5_1) _ _ (rd_L1 l1 x5_1) false _ ?side1 ?side2 ?side3 ?side4 A7.out).mono ?_); (case side1 => repeat (first | exact HR126_0.out | (with_reducible refine Kd.C_alloc ?_ _) | (with_reducible refine Kd.C_drewN ?_ _) | (with_reducible refine Kd.C_drew ?_))); (case side2 => exact HC126_0.out); (case side3 => repeat (first | exact HR127_0.out | (with_reducible refine Kd.C_alloc ?_ _) | (with_reducible refine Kd.C_drewN ?_ _) | (with_reducible refine Kd.C_drew ?_))); (case side4 => exact HC127_0.out); rintro e w' ⟨rfl, ⟨nd, rfl⟩⟩; (try first | exact ⟨rfl, _, World.drewN_drewN _ _ _⟩ | exact ⟨rfl, _, Eq.trans (World.drewN_drewN _ _ _) (congrArg (World.drewN _) (Nat.add_assoc _ _ _))⟩))); try go_wp2_with (first | (go_at_call 23; (with_reducible refine (laws_eqIntS.calls k1 _ _ (rd_L1 l0 x5_1) _ _ (rd_L1 l1 x5_1) false _ ?side1 ?side2 ?side3 ?side4 A7.out).mono ?_); (case side1 => repeat (first | exact HR126_0.out | (with_reducible refine Kd.C_alloc ?_ _) | (with_reducible refine Kd.C_drewN ?_ _) | (with_reducible refine Kd.C_drew ?_))); (case side2 => exact HC126_0.out); (case side3 => repeat (first | exact HR127_0.out | (with_reducible refine Kd.C_alloc ?_ _) | (with_reducible refine Kd.C_drewN ?_ _) | (with_reducible refine Kd.C_drew ?_))); (case side4 => exact HC127_0.out); rintro e w' ⟨rfl, ⟨nd, rfl⟩⟩; (try first | exact ⟨rfl, _, World.drewN_drewN _ _ _⟩ | exact ⟨rfl, _, Eq.trans (World.drewN_drewN _ _ _) (congrArg (World.drewN _) (Nat.add_assoc _ _ _))⟩))))
        go_ret
        exact ⟨by first | rfl | (simp; done) | (simp [*]; done), by repeat (first | exact Drawn0.refl _ | apply Drawn0.step)⟩
      ·rw [if_neg c6] at H
       exact absurd H (by simp)
     ·rw [if_neg c5] at H
      exact absurd H (by simp)
    ·rw [if_neg c4] at H
     have c4b0 : decide (x5_1 < (l0.length : Int)) = false := decide_eq_false c4
     clear c4
     obtain rfl := Option.some.inj H
     go_wp2
     repeat (go_quiet (fail); try go_wp2)
     go_ret
     exact ⟨by first | rfl | (simp; done) | (simp [*]; done), by repeat (first | exact Drawn0.refl _ | apply Drawn0.step)⟩
 ·rw [if_neg c3] at H
  have c3b0 : ((l0.length : Int) == (l1.length : Int)) = false := beq_eq_false_iff_ne.mpr c3
  have c3b1 : ((l0.length : Int) != (l1.length : Int)) = true := bne_iff_ne.mpr c3
  have c3b2 : (l0.length == l1.length) = false := by first | simpa using c3 | (simp at c3 ⊢; omega)
  obtain rfl := Option.some.inj H
  go_enter Try.func57, Try.ntmps57
  go_wp2
  repeat (go_quiet (fail); try go_wp2)
  go_ret
  exact ⟨by first | rfl | (simp; done) | (simp [*]; done), by repeat (first | exact Drawn0.refl _ | apply Drawn0.step)⟩
end Go.Proofs.Ytelfahcjeldliaa.PFnExactNormalCnf
end
section
namespace Go.Proofs.Ytelfahcjeldliaa.PFnExactNormalCnf
open Go.RowKit Go.Proofs.YtelfahcjeldliaaW.PrintWords Go.Proofs.YtelfahcjeldliaaW.PrintLast Go.Proofs.YtelfahcjeldliaaW.PrintMore
attribute [local go_sem] max2_int min2_int max_two min_two max_three min_three max_four min_four   -- for this text's walks alone
set_option linter.unusedVariables false
set_option linter.unusedSimpArgs false
def laws_eqCnf.f (k : Nat) (a0_0 : Int) (l0_1 : List (List Int)) (a1_0 : Int) (l1_1 : List (List Int)) : Option (Bool) := if a0_0 = a1_0 then ((laws_eqIntSS.f k l0_1 l1_1).bind fun t131 => (if t131 = true then (some true) else (some false))) else (some false)
set_option maxHeartbeats 8000000 in
set_option maxRecDepth 100000 in
theorem laws_eqCnf.calls (k : Nat) (a0_0 : Int) (A0_1 : Option Addr) (c0_1 : Nat) (l0_1 : List (List Int)) (a1_0 : Int) (A1_1 : Option Addr) (c1_1 : Nat) (l1_1 : List (List Int)) (r : Bool) (w : World) (hr0_1 : Kd.C (Kd.slice 3 (Kd.int .i64)) w A0_1 l0_1.length l0_1) (hc0_1 : l0_1.length ≤ c0_1) (hr1_1 : Kd.C (Kd.slice 3 (Kd.int .i64)) w A1_1 l1_1.length l1_1) (hc1_1 : l1_1.length ≤ c1_1) (h : laws_eqCnf.f k a0_0 l0_1 a1_0 l1_1 = some r) :
  Calls Try.prog 18 #[.agg #[.int .i64 a0_0, .slice A0_1 l0_1.length c0_1], .agg #[.int .i64 a1_0, .slice A1_1 l1_1.length c1_1]] w fun e w' => e = .returned (.bool r) ∧ Below w.heap.size w w' := by
 have hu30 := Try.underlying30
 have HR0_1 := Aside0.mk hr0_1
 have HC0_1 := Aside0.mk hc0_1
 clear hr0_1 hc0_1
 have HR1_1 := Aside0.mk hr1_1
 have HC1_1 := Aside0.mk hc1_1
 clear hr1_1 hc1_1
 have HB := Aside0.mk (Below.refl w.heap.size w)
 have H : (if a0_0 = a1_0 then ((laws_eqIntSS.f k l0_1 l1_1).bind fun t131 => (if t131 = true then (some true) else (some false))) else (some false)) = some r := h
 clear h
 by_cases c3 : a0_0 = a1_0
 ·rw [if_pos c3] at H
  have c3b0 : (a0_0 == a1_0) = true := beq_iff_eq.mpr c3
  have c3b1 : (a0_0 != a1_0) = false := bne_eq_false_iff_eq.mpr c3
  clear c3
  replace H := Option.bind_eq_some_iff.mp H
  obtain ⟨t131, A40, H⟩ := H
  replace H : (if t131 = true then (some true) else (some false)) = some r := H
  have A4 := Aside0.mk A40
  clear A40
  by_cases c5 : t131 = true
  ·subst c5
   have H1 : (some true) = some r := by rw [if_pos rfl] at H; exact H
   clear H
   have H := H1
   clear H1
   obtain rfl := Option.some.inj H
   go_enter Try.func18, Try.ntmps18
   go_wp2_with (first | ((with_reducible refine gate_dst (N := 2) rfl ?_); refine box_event ?hg (N := 2) ?hd (cs := #[.int .i64 a0_0, .slice A0_1 l0_1.length c0_1]) (t := 30) ?hr ?_; (case hd => rfl); (case hg => rfl); (case hr => first | (go_simp; done) | (go_simp; rfl)); intro gb129 hg w6 hbox hb; have n0_ := Aside0.mk (below_step (by repeat (first | (with_reducible first | exact HB.out | apply below_alloc | apply pw_below_drewN | apply below_drew1) | exact HB.out)) hb); have n1_ := Aside0.mk (hbox); have n2_ := Aside0.mk ((by rw [hg]; exact (below_size (by repeat (first | (with_reducible first | exact HB.out | apply below_alloc | apply pw_below_drewN | apply below_drew1) | exact HB.out))) : w.heap.size ≤ gb129)); have n3_ := Aside0.mk ((by rw [hg]; exact (below_size (by repeat (first | (with_reducible first | exact HB.out | apply below_alloc | apply pw_below_drewN | apply below_drew1) | exact HB.out))) : w.heap.size ≤ gb129)); clear HB; have HB := n0_; have BK129 := n1_; have GW129 := n2_; have GE129 := n3_; clear n0_ n1_ n2_ n3_; clear hb hbox hg) | ((with_reducible refine gate_dst (N := 3) rfl ?_); refine box_event ?hg (N := 3) ?hd (cs := #[.int .i64 a1_0, .slice A1_1 l1_1.length c1_1]) (t := 30) ?hr ?_; (case hd => rfl); (case hg => rfl); (case hr => first | (go_simp; done) | (go_simp; rfl)); intro gb130 hg w7 hbox hb; have n0_ := Aside0.mk (blk_below (g := gb129) (o := .cells #[.int .i64 a0_0, .slice A0_1 l0_1.length c0_1] 30 (0, 0)) (by (with_reducible repeat (first | refine blk_drewN ?_ _ | refine blk_drew ?_ | refine blk_alloc ?_ _)); exact BK129.out) hb); have n1_ := Aside0.mk (below_step (by repeat (first | (with_reducible first | exact HB.out | apply below_alloc | apply pw_below_drewN | apply below_drew1 | refine below_set ?_ GE129.out) | exact HB.out)) hb); have n2_ := Aside0.mk (hbox); have n3_ := Aside0.mk ((by rw [hg]; exact (below_size (by repeat (first | (with_reducible first | exact HB.out | apply below_alloc | apply pw_below_drewN | apply below_drew1 | refine below_set ?_ GE129.out) | exact HB.out))) : w.heap.size ≤ gb130)); have n4_ := Aside0.mk ((by rw [hg]; exact (below_size (by repeat (first | (with_reducible first | exact HB.out | apply below_alloc | apply pw_below_drewN | apply below_drew1 | refine below_set ?_ GE129.out) | exact HB.out))) : w.heap.size ≤ gb130)); have n5_ := Aside0.mk ((by rw [hg]; exact Nat.ne_of_lt (blk_lt (g := gb129) (o := .cells #[.int .i64 a0_0, .slice A0_1 l0_1.length c0_1] 30 (0, 0)) (by (with_reducible repeat (first | refine blk_drewN ?_ _ | refine blk_drew ?_ | refine blk_alloc ?_ _)); exact BK129.out)) : gb129 ≠ gb130)); have n6_ := Aside0.mk ((by rw [hg]; exact Nat.ne_of_gt (blk_lt (g := gb129) (o := .cells #[.int .i64 a0_0, .slice A0_1 l0_1.length c0_1] 30 (0, 0)) (by (with_reducible repeat (first | refine blk_drewN ?_ _ | refine blk_drew ?_ | refine blk_alloc ?_ _)); exact BK129.out)) : gb130 ≠ gb129)); clear BK129; clear HB; have BK129 := n0_; have HB := n1_; have BK130 := n2_; have GW130 := n3_; have GE130 := n4_; have NB129_130 := n5_; have NB130_129 := n6_; clear n0_ n1_ n2_ n3_ n4_ n5_ n6_; clear hb hbox hg; have hnb8 := NB129_130.out; have hnc8 := NB130_129.out; have hcz9_0 : w7.cell? ⟨gb129, 0, none⟩ = some (.int .i64 a0_0) := (blk_cell BK129.out 0).trans rfl; have hcz9_1 : w7.cell? ⟨gb129, 1, none⟩ = some (.slice A0_1 l0_1.length c0_1) := (blk_cell BK129.out 1).trans rfl; have hfz9_0 := blk_frozen BK129.out 0; have hfz9_1 := blk_frozen BK129.out 1; have hcz10_0 : w7.cell? ⟨gb130, 0, none⟩ = some (.int .i64 a1_0) := (blk_cell BK130.out 0).trans rfl; have hcz10_1 : w7.cell? ⟨gb130, 1, none⟩ = some (.slice A1_1 l1_1.length c1_1) := (blk_cell BK130.out 1).trans rfl; have hfz10_0 := blk_frozen BK130.out 0; have hfz10_1 := blk_frozen BK130.out 1) | ((with_reducible refine gate_callee (f := 57) rfl ?_); refine goesL_ (some 14) rfl rfl Try.func57 (by kernel_rfl) rfl #[.slice A0_1 l0_1.length c0_1, .slice A1_1 l1_1.length c1_1] rfl (by (try simp only [List.map_toArray, List.map_cons, List.map_nil]); first | done | rfl | (simp only [List.length_drop, List.length_take]; rfl)) ?_; (with_reducible refine (laws_eqIntSS.calls k _ _ l0_1 _ _ l1_1 true _ ?side1 ?side2 ?side3 ?side4 A4.out).mono ?_); (case side1 => repeat (first | exact (Kd.C_below HR0_1.out HB.out) | (with_reducible refine Kd.C_alloc ?_ _) | (with_reducible refine Kd.C_drewN ?_ _) | (with_reducible refine Kd.C_drew ?_))); (case side2 => exact HC0_1.out); (case side3 => repeat (first | exact (Kd.C_below HR1_1.out HB.out) | (with_reducible refine Kd.C_alloc ?_ _) | (with_reducible refine Kd.C_drewN ?_ _) | (with_reducible refine Kd.C_drew ?_))); (case side4 => exact HC1_1.out); rintro e w' ⟨rfl, ⟨nd, rfl⟩⟩; refine ⟨_, rfl, ?_⟩))
   go_ret
   exact ⟨by first | rfl | (simp [errW_none, errW_some] <;> rfl) | (simp [*, errW_none, errW_some] <;> rfl), by repeat (first | (with_reducible first | exact HB.out | apply below_alloc | apply pw_below_drewN | apply below_drew1 | refine below_set ?_ GE129.out | refine below_set ?_ GE130.out) | exact HB.out)⟩
  ·replace c5 := Bool.eq_false_iff.mpr c5
   subst c5
   have H1 : (some false) = some r := by rw [if_neg (show ¬ (false = true) by decide)] at H; exact H
   clear H
   have H := H1
   clear H1
   obtain rfl := Option.some.inj H
   go_enter Try.func18, Try.ntmps18
   go_wp2_with (first | ((with_reducible refine gate_dst (N := 2) rfl ?_); refine box_event ?hg (N := 2) ?hd (cs := #[.int .i64 a0_0, .slice A0_1 l0_1.length c0_1]) (t := 30) ?hr ?_; (case hd => rfl); (case hg => rfl); (case hr => first | (go_simp; done) | (go_simp; rfl)); intro gb129 hg w11 hbox hb; have n0_ := Aside0.mk (below_step (by repeat (first | (with_reducible first | exact HB.out | apply below_alloc | apply pw_below_drewN | apply below_drew1) | exact HB.out)) hb); have n1_ := Aside0.mk (hbox); have n2_ := Aside0.mk ((by rw [hg]; exact (below_size (by repeat (first | (with_reducible first | exact HB.out | apply below_alloc | apply pw_below_drewN | apply below_drew1) | exact HB.out))) : w.heap.size ≤ gb129)); have n3_ := Aside0.mk ((by rw [hg]; exact (below_size (by repeat (first | (with_reducible first | exact HB.out | apply below_alloc | apply pw_below_drewN | apply below_drew1) | exact HB.out))) : w.heap.size ≤ gb129)); clear HB; have HB := n0_; have BK129 := n1_; have GW129 := n2_; have GE129 := n3_; clear n0_ n1_ n2_ n3_; clear hb hbox hg) | ((with_reducible refine gate_dst (N := 3) rfl ?_); refine box_event ?hg (N := 3) ?hd (cs := #[.int .i64 a1_0, .slice A1_1 l1_1.length c1_1]) (t := 30) ?hr ?_; (case hd => rfl); (case hg => rfl); (case hr => first | (go_simp; done) | (go_simp; rfl)); intro gb130 hg w12 hbox hb; have n0_ := Aside0.mk (blk_below (g := gb129) (o := .cells #[.int .i64 a0_0, .slice A0_1 l0_1.length c0_1] 30 (0, 0)) (by (with_reducible repeat (first | refine blk_drewN ?_ _ | refine blk_drew ?_ | refine blk_alloc ?_ _)); exact BK129.out) hb); have n1_ := Aside0.mk (below_step (by repeat (first | (with_reducible first | exact HB.out | apply below_alloc | apply pw_below_drewN | apply below_drew1 | refine below_set ?_ GE129.out) | exact HB.out)) hb); have n2_ := Aside0.mk (hbox); have n3_ := Aside0.mk ((by rw [hg]; exact (below_size (by repeat (first | (with_reducible first | exact HB.out | apply below_alloc | apply pw_below_drewN | apply below_drew1 | refine below_set ?_ GE129.out) | exact HB.out))) : w.heap.size ≤ gb130)); have n4_ := Aside0.mk ((by rw [hg]; exact (below_size (by repeat (first | (with_reducible first | exact HB.out | apply below_alloc | apply pw_below_drewN | apply below_drew1 | refine below_set ?_ GE129.out) | exact HB.out))) : w.heap.size ≤ gb130)); have n5_ := Aside0.mk ((by rw [hg]; exact Nat.ne_of_lt (blk_lt (g := gb129) (o := .cells #[.int .i64 a0_0, .slice A0_1 l0_1.length c0_1] 30 (0, 0)) (by (with_reducible repeat (first | refine blk_drewN ?_ _ | refine blk_drew ?_ | refine blk_alloc ?_ _)); exact BK129.out)) : gb129 ≠ gb130)); have n6_ := Aside0.mk ((by rw [hg]; exact Nat.ne_of_gt (blk_lt (g := gb129) (o := .cells #[.int .i64 a0_0, .slice A0_1 l0_1.length c0_1] 30 (0, 0)) (by (with_reducible repeat (first | refine blk_drewN ?_ _ | refine blk_drew ?_ | refine blk_alloc ?_ _)); exact BK129.out)) : gb130 ≠ gb129)); clear BK129; clear HB; have BK129 := n0_; have HB := n1_; have BK130 := n2_; have GW130 := n3_; have GE130 := n4_; have NB129_130 := n5_; have NB130_129 := n6_; clear n0_ n1_ n2_ n3_ n4_ n5_ n6_; clear hb hbox hg; have hnb13 := NB129_130.out; have hnc13 := NB130_129.out; have hcz14_0 : w12.cell? ⟨gb129, 0, none⟩ = some (.int .i64 a0_0) := (blk_cell BK129.out 0).trans rfl; have hcz14_1 : w12.cell? ⟨gb129, 1, none⟩ = some (.slice A0_1 l0_1.length c0_1) := (blk_cell BK129.out 1).trans rfl; have hfz14_0 := blk_frozen BK129.out 0; have hfz14_1 := blk_frozen BK129.out 1; have hcz15_0 : w12.cell? ⟨gb130, 0, none⟩ = some (.int .i64 a1_0) := (blk_cell BK130.out 0).trans rfl; have hcz15_1 : w12.cell? ⟨gb130, 1, none⟩ = some (.slice A1_1 l1_1.length c1_1) := (blk_cell BK130.out 1).trans rfl; have hfz15_0 := blk_frozen BK130.out 0; have hfz15_1 := blk_frozen BK130.out 1) | ((with_reducible refine gate_callee (f := 57) rfl ?_); refine goesL_ (some 14) rfl rfl Try.func57 (by kernel_rfl) rfl #[.slice A0_1 l0_1.length c0_1, .slice A1_1 l1_1.length c1_1] rfl (by (try simp only [List.map_toArray, List.map_cons, List.map_nil]); first | done | rfl | (simp only [List.length_drop, List.length_take]; rfl)) ?_; (with_reducible refine (laws_eqIntSS.calls k _ _ l0_1 _ _ l1_1 false _ ?side1 ?side2 ?side3 ?side4 A4.out).mono ?_); (case side1 => repeat (first | exact (Kd.C_below HR0_1.out HB.out) | (with_reducible refine Kd.C_alloc ?_ _) | (with_reducible refine Kd.C_drewN ?_ _) | (with_reducible refine Kd.C_drew ?_))); (case side2 => exact HC0_1.out); (case side3 => repeat (first | exact (Kd.C_below HR1_1.out HB.out) | (with_reducible refine Kd.C_alloc ?_ _) | (with_reducible refine Kd.C_drewN ?_ _) | (with_reducible refine Kd.C_drew ?_))); (case side4 => exact HC1_1.out); rintro e w' ⟨rfl, ⟨nd, rfl⟩⟩; refine ⟨_, rfl, ?_⟩))
   go_ret
   exact ⟨by first | rfl | (simp [errW_none, errW_some] <;> rfl) | (simp [*, errW_none, errW_some] <;> rfl), by repeat (first | (with_reducible first | exact HB.out | apply below_alloc | apply pw_below_drewN | apply below_drew1 | refine below_set ?_ GE129.out | refine below_set ?_ GE130.out) | exact HB.out)⟩
 ·rw [if_neg c3] at H
  have c3b0 : (a0_0 == a1_0) = false := beq_eq_false_iff_ne.mpr c3
  have c3b1 : (a0_0 != a1_0) = true := bne_iff_ne.mpr c3
  obtain rfl := Option.some.inj H
  go_enter Try.func18, Try.ntmps18
  go_wp2_with (first | ((with_reducible refine gate_dst (N := 2) rfl ?_); refine box_event ?hg (N := 2) ?hd (cs := #[.int .i64 a0_0, .slice A0_1 l0_1.length c0_1]) (t := 30) ?hr ?_; (case hd => rfl); (case hg => rfl); (case hr => first | (go_simp; done) | (go_simp; rfl)); intro gb129 hg w16 hbox hb; have n0_ := Aside0.mk (below_step (by repeat (first | (with_reducible first | exact HB.out | apply below_alloc | apply pw_below_drewN | apply below_drew1) | exact HB.out)) hb); have n1_ := Aside0.mk (hbox); have n2_ := Aside0.mk ((by rw [hg]; exact (below_size (by repeat (first | (with_reducible first | exact HB.out | apply below_alloc | apply pw_below_drewN | apply below_drew1) | exact HB.out))) : w.heap.size ≤ gb129)); have n3_ := Aside0.mk ((by rw [hg]; exact (below_size (by repeat (first | (with_reducible first | exact HB.out | apply below_alloc | apply pw_below_drewN | apply below_drew1) | exact HB.out))) : w.heap.size ≤ gb129)); clear HB; have HB := n0_; have BK129 := n1_; have GW129 := n2_; have GE129 := n3_; clear n0_ n1_ n2_ n3_; clear hb hbox hg) | ((with_reducible refine gate_dst (N := 3) rfl ?_); refine box_event ?hg (N := 3) ?hd (cs := #[.int .i64 a1_0, .slice A1_1 l1_1.length c1_1]) (t := 30) ?hr ?_; (case hd => rfl); (case hg => rfl); (case hr => first | (go_simp; done) | (go_simp; rfl)); intro gb130 hg w17 hbox hb; have n0_ := Aside0.mk (blk_below (g := gb129) (o := .cells #[.int .i64 a0_0, .slice A0_1 l0_1.length c0_1] 30 (0, 0)) (by (with_reducible repeat (first | refine blk_drewN ?_ _ | refine blk_drew ?_ | refine blk_alloc ?_ _)); exact BK129.out) hb); have n1_ := Aside0.mk (below_step (by repeat (first | (with_reducible first | exact HB.out | apply below_alloc | apply pw_below_drewN | apply below_drew1 | refine below_set ?_ GE129.out) | exact HB.out)) hb); have n2_ := Aside0.mk (hbox); have n3_ := Aside0.mk ((by rw [hg]; exact (below_size (by repeat (first | (with_reducible first | exact HB.out | apply below_alloc | apply pw_below_drewN | apply below_drew1 | refine below_set ?_ GE129.out) | exact HB.out))) : w.heap.size ≤ gb130)); have n4_ := Aside0.mk ((by rw [hg]; exact (below_size (by repeat (first | (with_reducible first | exact HB.out | apply below_alloc | apply pw_below_drewN | apply below_drew1 | refine below_set ?_ GE129.out) | exact HB.out))) : w.heap.size ≤ gb130)); have n5_ := Aside0.mk ((by rw [hg]; exact Nat.ne_of_lt (blk_lt (g := gb129) (o := .cells #[.int .i64 a0_0, .slice A0_1 l0_1.length c0_1] 30 (0, 0)) (by (with_reducible repeat (first | refine blk_drewN ?_ _ | refine blk_drew ?_ | refine blk_alloc ?_ _)); exact BK129.out)) : gb129 ≠ gb130)); have n6_ := Aside0.mk ((by rw [hg]; exact Nat.ne_of_gt (blk_lt (g := gb129) (o := .cells #[.int .i64 a0_0, .slice A0_1 l0_1.length c0_1] 30 (0, 0)) (by (with_reducible repeat (first | refine blk_drewN ?_ _ | refine blk_drew ?_ | refine blk_alloc ?_ _)); exact BK129.out)) : gb130 ≠ gb129)); clear BK129; clear HB; have BK129 := n0_; have HB := n1_; have BK130 := n2_; have GW130 := n3_; have GE130 := n4_; have NB129_130 := n5_; have NB130_129 := n6_; clear n0_ n1_ n2_ n3_ n4_ n5_ n6_; clear hb hbox hg; have hnb18 := NB129_130.out; have hnc18 := NB130_129.out; have hcz19_0 : w17.cell? ⟨gb129, 0, none⟩ = some (.int .i64 a0_0) := (blk_cell BK129.out 0).trans rfl; have hcz19_1 : w17.cell? ⟨gb129, 1, none⟩ = some (.slice A0_1 l0_1.length c0_1) := (blk_cell BK129.out 1).trans rfl; have hfz19_0 := blk_frozen BK129.out 0; have hfz19_1 := blk_frozen BK129.out 1; have hcz20_0 : w17.cell? ⟨gb130, 0, none⟩ = some (.int .i64 a1_0) := (blk_cell BK130.out 0).trans rfl; have hcz20_1 : w17.cell? ⟨gb130, 1, none⟩ = some (.slice A1_1 l1_1.length c1_1) := (blk_cell BK130.out 1).trans rfl; have hfz20_0 := blk_frozen BK130.out 0; have hfz20_1 := blk_frozen BK130.out 1))
  go_ret
  exact ⟨by first | rfl | (simp [errW_none, errW_some] <;> rfl) | (simp [*, errW_none, errW_some] <;> rfl), by repeat (first | (with_reducible first | exact HB.out | apply below_alloc | apply pw_below_drewN | apply below_drew1 | refine below_set ?_ GE129.out | refine below_set ?_ GE130.out) | exact HB.out)⟩
def laws_markIntS.l0 : Nat → List Int → Int → Int → Option (Int × List Int)
 | 0, _, _, _ => none
 | k + 1, x0, x1, x5 => if x5 < (x0.length : Int) then (if 0 ≤ x5 then (laws_markIntS.l0 k (x0.set (x5 : Int).toNat x1) (wrap64 (x1 + 1)) (wrap64 (x5 + 1))) else (none)) else (some (x1, x0))
def laws_markIntS.f (k : Nat) (l0 : List Int) (a1 : Int) : Option (Int × List Int) := laws_markIntS.l0 k l0 a1 0
theorem laws_markIntS.mono_l : ∀ k, (∀ y0 y1 y2, LeO (laws_markIntS.l0 k y0 y1 y2) (laws_markIntS.l0 (k + 1) y0 y1 y2))
 | 0 => fun _ _ _ r h => by simp [laws_markIntS.l0] at h
 | k + 1 => by
  have ih0 := laws_markIntS.mono_l k
  ·intro y0 y1 y2
   unfold laws_markIntS.l0
   repeat' first
   | (with_reducible exact ih0 _ _ _)
   | (with_reducible exact LeO.refl _)
   | (with_reducible exact LeO.none _)
   | (with_reducible refine LeO.ite ?_ ?_)
   | (with_reducible refine LeO.bind ?_ (fun _ => ?_))
   | exact ih0 _ _ _
   | exact LeO.none _
   | refine LeO.ite ?_ ?_
   | refine LeO.bind ?_ (fun _ => ?_)
theorem laws_markIntS.mono : ∀ a0 a1 k, LeO (laws_markIntS.f k a0 a1) (laws_markIntS.f (k + 1) a0 a1) := by
 intro a0 a1 k
 have ih0 := laws_markIntS.mono_l k
 unfold laws_markIntS.f
 repeat' first
   | (with_reducible exact ih0 _ _ _)
   | (with_reducible exact LeO.refl _)
   | (with_reducible exact LeO.none _)
   | (with_reducible refine LeO.ite ?_ ?_)
   | (with_reducible refine LeO.bind ?_ (fun _ => ?_))
   | exact ih0 _ _ _
   | exact LeO.none _
   | refine LeO.ite ?_ ?_
   | refine LeO.bind ?_ (fun _ => ?_)
set_option maxHeartbeats 8000000 in
set_option maxRecDepth 100000 in
theorem laws_markIntS.calls (k : Nat) (P0_ : Nat → Prop) (u9000_ : Value) (l0 : List Int) (a1 : Int) (r1 : Int) (r2 : List Int) (w0 w : World) (hB : Below w0.heap.size w0 w) (ho0 : Kd.R (Kd.int .i64) 3 w w0.heap.size P0_ u9000_ l0) (h : laws_markIntS.f k l0 a1 = some (r1, r2)) :
  Calls Try.prog 27 #[u9000_, .int .i64 a1] w fun e w' => e = .returned (.int .i64 r1) ∧ Kd.R (Kd.int .i64) 3 w' w0.heap.size (fun k_ => (P0_ k_ ∨ w.heap.size ≤ k_)) u9000_ r2 ∧ Below w0.heap.size w0 w' ∧ Kept w w' (fun k_ => P0_ k_) := by
 have HO0 := Aside0.mk (show Kd.R (Kd.int .i64) 3 w w0.heap.size (fun k_ => (P0_ k_ ∨ w.heap.size ≤ k_)) u9000_ l0 from Kd.R_mono ho0 (fun k_ hk => (.inl hk)))
 have HK := Aside0.mk (Kept.refl w (fun k_ => P0_ k_))
 have HW0 := Aside0.mk hB.size
 have HB := Aside0.mk hB
 clear hB
 have H : (laws_markIntS.l0 k l0 a1 0) = some (r1, r2) := h
 clear h
 have H' := Aside0.mk H
 clear H
 go_enter Try.func27, Try.ntmps27
 go_wp2
 go_loopg [1, 5] k (fun kq v1 v5 w' => ∃ (x0_1 : List Int) (x1_1 : Int) (x5_1 : Int), v1 = .int .i64 x1_1 ∧ v5 = .int .i64 x5_1 ∧ Aside0 (laws_markIntS.l0 kq x0_1 x1_1 x5_1 = some (r1, r2)) ∧ Aside0 (kq ≤ k) ∧ Aside0 (Kd.R (Kd.int .i64) 3 w' w0.heap.size (fun k_ => (P0_ k_ ∨ w.heap.size ≤ k_)) u9000_ x0_1) ∧ Aside0 (Kept w w' (fun k_ => P0_ k_)) ∧ Aside0 (Below w0.heap.size w0 w'))
 case atStart => exact ⟨(l0), (a1), (0), (by first | rfl | (simp; done) | (simp [*]; done)), (by first | rfl | (simp; done) | (simp [*]; done)), H', ⟨Nat.le_refl _⟩, ⟨by (with_reducible repeat (first | apply Kd.R_alloc | apply Kd.R_drewN | apply Kd.R_drew)); exact HO0.out⟩, ⟨by repeat (first | (with_reducible first | exact HK.out | apply Kept.alloc | apply Kept.drewN | apply Kept.drew) | exact HK.out)⟩, ⟨by repeat (first | (with_reducible first | exact HB.out | apply below_alloc | apply pw_below_drewN | apply below_drew1) | exact HB.out)⟩⟩
 case round =>
  clear H'
  try clear c2
  try clear p2
  obtain ⟨x0_1, x1_1, x5_1, rfl, rfl, HA, HK1, HO_0, HK, HB⟩ := hrel
  cases gk with
  | zero => exact absurd HA.out (by simp [laws_markIntS.l0])
  | succ k1 =>
   have H := HA.out
   clear HA
   simp only [laws_markIntS.l0] at H
   by_cases c3 : x5_1 < (x0_1.length : Int)
   ·rw [if_pos c3] at H
    have c3b0 : decide (x5_1 < (x0_1.length : Int)) = true := decide_eq_true c3
    clear c3
    by_cases c4 : 0 ≤ x5_1
    ·rw [if_pos c4] at H
     have c4b0 : decide (0 ≤ x5_1) = true := decide_eq_true c4
     clear c4
     obtain ⟨y132, hy132⟩ : ∃ y_ : List Int, y_ = (x0_1.set (x5_1 : Int).toNat x1_1) := ⟨_, rfl⟩
     replace H : (laws_markIntS.l0 k1 y132 (wrap64 (x1_1 + 1)) (wrap64 (x5_1 + 1))) = some (r1, r2) := by first | (rw [hy132]; with_reducible exact H) | (have H2_ := (Option.bind_some _ _).symm.trans H; rw [hy132]; with_reducible exact H2_) | (have H2_ := (Option.bind_some _ _).symm.trans H; with_reducible exact H2_) | with_reducible exact H | (rw [hy132]; exact H) | exact H
     have Ny132 := Aside0.mk hy132
     clear hy132
     have H' := Aside0.mk H
     clear H
     obtain ⟨Ao6, co6, eo6⟩ := Kd.R_slice HO_0.out
     subst eo6
     have p5 : 0 ≤ (x5_1 : Int) := of_decide_eq_true (by first | (with_reducible assumption) | assumption)
     have q5 : (x5_1 : Int) < ((x0_1.length : Int) : Int) := of_decide_eq_true (by first | (with_reducible assumption) | assumption)
     obtain ⟨go5, co5, eo5, gb5, gl5, cl5, HG5⟩ := Kd.R_form HO_0.out (by omega)
     (first | cases eo5 | (injection eo5 with ea_ en_ ec_; (first | subst ea_ | (injection ea_ with ea_; subst ea_)); subst ec_; clear en_))
     have GB5 := Aside0.mk gb5
     have GG5 := Aside0.mk HG5
     clear gb5 gl5 HG5
     have HMgo5 := Aside0.mk (show (P0_ go5 ∨ w.heap.size ≤ go5) from (HO_0.out.1 _ rfl))
     obtain ⟨hx5_0, hf5_0⟩ := Kd.R_celln 0 HO_0.out (x5_1 : Int) p5 q5
     replace p5 := eq_true p5
     replace q5 := eq_true q5
     have HP7 := Kd.R_putg HO_0.out (x5_1 : Int) x1_1
     go_wp2_with (first | ((with_reducible refine gate_store (t := 3) (p := 15) rfl ?_); refine store_event (t := 3) (p := 15) (v := ?vo_w8) (w1 := (wr.setCell ⟨go5, (x5_1 : Int).toNat, none⟩ (.int .i64 x1_1))) ?hg ?ho ?hn ?hr ?_; (case ho => rfl); (case hg => rfl); (case hn => rfl); (case hr => first | (go_simp; done) | (go_simp; rfl)); intro w8 hw; have hg : wr.grownBy w8 (some go5) := (by rw [hw]; exact HP7.2); have hp_ : Kd.R (Kd.int .i64) 3 w8 w0.heap.size (fun k_ => (P0_ k_ ∨ w.heap.size ≤ k_)) (.slice (some ⟨go5, 0, none⟩) x0_1.length co6) y132 := (by rw [hw, Ny132.out]; exact HP7.1); clear HP7; have n0_ := Aside0.mk (hp_); have n1_ := Aside0.mk ((by rw [hw]; exact below_set (HB.out) GB5.out : Below w0.heap.size w0 w8)); have n2_ := Aside0.mk (Kept.of_grown (S := (fun k_ => P0_ k_)) hg (by repeat (first | (with_reducible first | exact HK.out | apply Kept.alloc | apply Kept.drewN | apply Kept.drew) | exact HK.out)) (fun k_ e_ => (HO_0.out.1 k_ e_))); clear HO_0; clear HB; clear HK; have HO_0 := n0_; have HB := n1_; have HK := n2_; clear n0_ n1_ n2_; clear hg hw hp_))
     go_roundg k1
     case measure => have := HK1.out; omega
     case rel => exact ⟨(y132), (wrap64 (x1_1 + 1)), (wrap64 (x5_1 + 1)), (by first | rfl | (simp; done) | (simp [*]; done)), (by first | rfl | (simp; done) | (simp [*]; done)), H', ⟨by have := HK1.out; omega⟩, ⟨by (with_reducible repeat (first | apply Kd.R_alloc | apply Kd.R_drewN | apply Kd.R_drew)); exact HO_0.out⟩, ⟨by repeat (first | (with_reducible first | exact HK.out | apply Kept.alloc | apply Kept.drewN | apply Kept.drew) | exact HK.out)⟩, ⟨by repeat (first | (with_reducible first | exact HB.out | apply below_alloc | apply pw_below_drewN | apply below_drew1) | exact HB.out)⟩⟩
    ·rw [if_neg c4] at H
     exact absurd H (by simp)
   ·rw [if_neg c3] at H
    have c3b0 : decide (x5_1 < (x0_1.length : Int)) = false := decide_eq_false c3
    clear c3
    simp only [Option.some.injEq, Prod.mk.injEq] at H
    obtain ⟨rfl, rfl⟩ := H
    obtain ⟨Ao9, co9, eo9⟩ := Kd.R_slice HO_0.out
    subst eo9
    go_wp2
    go_ret
    exact ⟨by first | rfl | (simp [errW_none, errW_some] <;> rfl) | (simp [*, errW_none, errW_some] <;> rfl), by (with_reducible repeat (first | apply Kd.R_alloc | apply Kd.R_drewN | apply Kd.R_drew)); exact HO_0.out, by repeat (first | (with_reducible first | exact HB.out | apply below_alloc | apply pw_below_drewN | apply below_drew1) | exact HB.out), by repeat (first | (with_reducible first | exact HK.out | apply Kept.alloc | apply Kept.drewN | apply Kept.drew) | exact HK.out)⟩
def sumL (l : List (List Int)) : Nat := (l.map List.length).sum
theorem markI_run : ∀ (d i : Nat) (l : List Int) (a : Int), i + d = l.length → 0 ≤ a → a + d ≤ 4611686018427387904 → l.length ≤ 4611686018427387904 → ∃ r, laws_markIntS.l0 (d + 1) l a (i : Int) = some (a + d, r) ∧ r.length = l.length := by
 intro d
 induction d with
 | zero =>
  intro i l a hi _ _ _
  refine ⟨l, ?_, rfl⟩
  rw [laws_markIntS.l0, if_neg (by omega)]
  simp
 | succ d ih =>
  intro i l a hi h0 h1 h2
  have e1 : wrap64 (a + 1) = a + 1 := by unfold wrap64; omega
  have e2 : wrap64 ((i : Int) + 1) = ((i + 1 : Nat) : Int) := by unfold wrap64; omega
  obtain ⟨r, hr, hrl⟩ := ih (i + 1) (l.set (i : Int).toNat a) (a + 1) (by simp; omega) (by omega) (by omega) (by simpa using h2)
  refine ⟨r, ?_, by simpa using hrl⟩
  rw [laws_markIntS.l0, if_pos (by omega), if_pos (by omega), e1, e2, hr]
  congr 2
  omega
theorem sumL_drop (l : List (List Int)) (i : Nat) (h : i < l.length) : sumL (l.drop i) = (l.getD i []).length + sumL (l.drop (i + 1)) := by
 unfold sumL
 rw [List.drop_eq_getElem_cons h, List.map_cons, List.sum_cons, List.getD_eq_getElem?_getD, List.getElem?_eq_getElem h, Option.getD_some]
section
variable {P : World → Prop} {V V2 : World} {ok S : Nat → Prop}
theorem foot_below (h : Foot P V ok) (hb : Below V.heap.size V V2) : Foot P V2 ok := h.step (fun k _ hlt => hb.block k hlt)
theorem foot_kept (h : Foot P V ok) (hk : Kept V V2 S) (hne : ∀ k, ok k → ¬ S k) : Foot P V2 ok := h.step (fun k hk' hlt => hk.2 k hlt (hne k hk'))
theorem foot_S {α : Type} {d : Kd α} {e base : Nat} {v : Value} {xs : List α} (h : Kd.S d e V base ok v xs) : Foot (fun V => Kd.S d e V base ok v xs) V ok := fun W' hW => Kd.S_step h hW
theorem foot_blk {g : Nat} {o : Obj} (h : V.heap[g]? = some o) (hok : ok g) : Foot (fun V => V.heap[g]? = some o) V ok := fun W' hW => (hW g hok (blk_lt h)).trans h
theorem foot_and {Q : World → Prop} (h : Foot P V ok) (k : Foot Q V ok) : Foot (fun V => P V ∧ Q V) V ok := fun W' hW => ⟨h W' hW, k W' hW⟩
theorem foot_C {α : Type} {d : Kd α} {A : Option Addr} {n : Nat} {xs : List α} (hd : Kd.Heap d) (h : d.C V A n xs) : Foot (fun V => d.C V A n xs) V (fun k => k < V.heap.size) := Kd.C_F hd h
end
def impl_within.f (a0 : Int) (a1 : Int) (a2 : Int) : Option (Bool) := if a0 ≥ a1 then (some (decide (a0 ≤ a2))) else (some false)
set_option maxHeartbeats 8000000 in
set_option maxRecDepth 100000 in
theorem impl_within.calls (a0 : Int) (a1 : Int) (a2 : Int) (r : Bool) (w : World) (h : impl_within.f a0 a1 a2 = some r) :
  Calls Try.prog 83 #[.int .i64 a0, .int .i64 a1, .int .i64 a2] w fun e w' => e = .returned (.bool r) ∧ Drawn0 w w' := by
 have H : (if a0 ≥ a1 then (some (decide (a0 ≤ a2))) else (some false)) = some r := h
 clear h
 by_cases c4 : a0 ≥ a1
 ·rw [if_pos c4] at H
  have c4b0 : decide (a1 ≤ a0) = true := decide_eq_true c4
  clear c4
  obtain rfl := Option.some.inj H
  go_enter Try.func83, Try.ntmps83
  go_wp2
  go_ret
  exact ⟨by first | rfl | (simp; done) | (simp [*]; done), by repeat (first | exact Drawn0.refl _ | apply Drawn0.step)⟩
 ·rw [if_neg c4] at H
  have c4b0 : decide (a1 ≤ a0) = false := decide_eq_false c4
  clear c4
  obtain rfl := Option.some.inj H
  go_enter Try.func83, Try.ntmps83
  go_wp2
  go_ret
  exact ⟨by first | rfl | (simp; done) | (simp [*]; done), by repeat (first | exact Drawn0.refl _ | apply Drawn0.step)⟩
def impl_isLiteral.f (a0 : Int) (a1 : Int) : Option (Bool) := if a0 = 0 then (some false) else ((impl_within.f a0 (wrap64 (-a1)) a1).bind fun t133 => (some t133))
set_option maxHeartbeats 8000000 in
set_option maxRecDepth 100000 in
theorem impl_isLiteral.calls (a0 : Int) (a1 : Int) (r : Bool) (w : World) (h : impl_isLiteral.f a0 a1 = some r) :
  Calls Try.prog 68 #[.int .i64 a0, .int .i64 a1] w fun e w' => e = .returned (.bool r) ∧ Drawn0 w w' := by
 have H : (if a0 = 0 then (some false) else ((impl_within.f a0 (wrap64 (-a1)) a1).bind fun t133 => (some t133))) = some r := h
 clear h
 by_cases c3 : a0 = 0
 ·rw [if_pos c3] at H
  have c3b0 : (a0 == 0) = true := beq_iff_eq.mpr c3
  have c3b1 : (a0 != 0) = false := bne_eq_false_iff_eq.mpr c3
  clear c3
  obtain rfl := Option.some.inj H
  go_enter Try.func68, Try.ntmps68
  go_wp2
  go_ret
  exact ⟨by first | rfl | (simp; done) | (simp [*]; done), by repeat (first | exact Drawn0.refl _ | apply Drawn0.step)⟩
 ·rw [if_neg c3] at H
  have c3b0 : (a0 == 0) = false := beq_eq_false_iff_ne.mpr c3
  have c3b1 : (a0 != 0) = true := bne_iff_ne.mpr c3
  replace H := Option.bind_eq_some_iff.mp H
  obtain ⟨t133, A40, H⟩ := H
  replace H : (some t133) = some r := H
  have A4 := Aside0.mk A40
  clear A40
  obtain rfl := Option.some.inj H
  go_enter Try.func68, Try.ntmps68
  go_wp2_with (first | (go_at_call 83; (with_reducible refine (impl_within.calls a0 (wrap64 (-a1)) a1 t133 _ A4.out).mono ?_); rintro e w' ⟨rfl, ⟨nd, rfl⟩⟩))
  go_ret
  exact ⟨by first | rfl | (simp; done) | (simp [*]; done), by repeat (first | exact Drawn0.refl _ | apply Drawn0.step)⟩
def anyI (p : Nat → Bool) : Nat → Bool
 | 0 => false
 | n + 1 => anyI p n || p n
theorem anyI_none {p : Nat → Bool} : ∀ {n : Nat}, (∀ j, j < n → p j = false) → anyI p n = false
 | 0, _ => rfl
 | n + 1, h => by rw [anyI, anyI_none (fun j hj => h j (by omega)), h n (by omega)]; rfl
theorem anyI_some {p : Nat → Bool} : ∀ {n k : Nat}, k < n → p k = true → anyI p n = true
 | 0, _, h, _ => by omega
 | n + 1, k, h, hp => by
  rw [anyI]
  by_cases e : k = n
  ·subst e; rw [hp]; simp
  ·rw [anyI_some (show k < n by omega) hp]; simp
theorem anyI_list {α : Type} (q : α → Bool) (d : α) (p : Nat → Bool) : ∀ (l : List α), (∀ i, i < l.length → p i = q (l.getD i d)) → anyI p l.length = l.any q := by
 intro l h
 cases hq : l.any q with
 | true =>
  obtain ⟨x, hx, hqx⟩ := List.any_eq_true.1 hq
  obtain ⟨i, hi, rfl⟩ := List.mem_iff_getElem.1 hx
  exact anyI_some hi (by rw [h i hi]; simpa [List.getD, hi] using hqx)
 | false =>
  refine anyI_none (fun j hj => ?_)
  rw [h j hj]
  have := List.any_eq_false.1 hq (l.getD j d) (by simp [List.getD, hj])
  simpa using this
set_option maxHeartbeats 4000000 in
theorem idxInt (p : Nat → Bool) (V : Nat → Value) (g : Nat) (lb : Array Value) (eg : ∀ args w, (callFunc g args).run Try.prog w = .ok (.enter g args) w) (A : Option Addr) (n c : Nat) (w : World) (hn : n ≤ 9223372036854775807)
  (hc : 0 < n → ∃ ad, A = some ad ∧ ∀ i, i < n → w.cell? (ad.add i) = some (V i))
  (hp : ∀ i, i < n → ∀ W, Below w.heap.size w W → Calls Try.prog g (#[V i] ++ lb) W fun e W' => e = .returned (.bool (p i)) ∧ Below W.heap.size W W') :
  Calls Try.prog 126 #[.slice A n c, .func (.func g) #[] lb] w fun e w' => (∃ r : Int, e = .returned (.int .i64 r) ∧ decide (0 ≤ r) = anyI p n) ∧ Below w.heap.size w w' := by
 have HP := Aside0.mk hp
 have HC := Aside0.mk hc
 clear hp hc
 go_enter Try.func126, Try.ntmps126
 go_wp2
 go_loopg [5, 8] n (fun gg _ s8 wr => ∃ kk : Nat, kk ≤ n ∧ n - kk ≤ gg ∧ s8 = .int .i64 kk ∧ Aside0 (Below w.heap.size w wr) ∧ Aside0 (∀ j, j < kk → p j = false))
 case atStart => exact ⟨0, Nat.zero_le _, by omega, rfl, ⟨Below.refl _ _⟩, ⟨fun j hj => absurd hj (Nat.not_lt_zero _)⟩⟩
 case round =>
  obtain ⟨kk, hkk, hg, rfl, HB, HN⟩ := hrel
  by_cases hlt : kk < n
  ·have hltz : (kk : Int) < (n : Int) := by omega
   obtain ⟨ad, ea, hcell0⟩ := HC.out (by omega)
   have hcell := (HB.out.cell (World.block_lt_of_cell? w _ (hcell0 kk hlt))).trans (hcell0 kk hlt)
   clear hcell0
   cases ea
   have hcall := HP.out kk hlt _ HB.out
   cases hq : p kk with
   | true =>
    rw [hq] at hcall
    have HQ := Aside0.mk hq
    clear hq
    go_wp2_with (go_at_fn g; refine hcall.mono ?_; rintro e w' ⟨rfl, hb⟩)
    go_ret
    refine ⟨⟨kk, rfl, ?_⟩, HB.out.trans (hb.mono HB.out.size)⟩
    rw [anyI_some hlt HQ.out, decide_eq_true (by omega)]
   | false =>
    rw [hq] at hcall
    have HQ := Aside0.mk hq
    clear hq
    go_wp2_with (go_at_fn g; refine hcall.mono ?_; rintro e w' ⟨rfl, hb⟩)
    go_roundg (n - (kk + 1))
    case measure => omega
    case rel =>
     refine ⟨kk + 1, by omega, by omega, by go_num, ⟨HB.out.trans (hb.mono HB.out.size)⟩, ⟨fun j hj => ?_⟩⟩
     by_cases e : j = kk
     ·subst e
      exact HQ.out
     ·exact HN.out j (by omega)
  ·have hltz : ¬ (kk : Int) < (n : Int) := by omega
   have : kk = n := by omega
   subst this
   go_wp2
   go_ret
   refine ⟨⟨-1, rfl, ?_⟩, HB.out⟩
   rw [anyI_none HN.out]
   rfl
set_option maxHeartbeats 4000000 in
theorem anyInt (p : Nat → Bool) (V : Nat → Value) (g : Nat) (lb : Array Value) (eg : ∀ args w, (callFunc g args).run Try.prog w = .ok (.enter g args) w) (A : Option Addr) (n c : Nat) (w : World) (hn : n ≤ 9223372036854775807)
  (hc : 0 < n → ∃ ad, A = some ad ∧ ∀ i, i < n → w.cell? (ad.add i) = some (V i))
  (hp : ∀ i, i < n → ∀ W, Below w.heap.size w W → Calls Try.prog g (#[V i] ++ lb) W fun e W' => e = .returned (.bool (p i)) ∧ Below W.heap.size W W') :
  Calls Try.prog 103 #[.slice A n c, .func (.func g) #[] lb] w fun e w' => e = .returned (.bool (anyI p n)) ∧ Below w.heap.size w w' := by
 have hcall := idxInt p V g lb eg A n c w hn hc hp
 clear hp hc
 go_enter Try.func103, Try.ntmps103
 go_wp2_with (go_at_call 126; refine hcall.mono ?_; rintro e w' ⟨⟨r, rfl, hr⟩, hb⟩)
 go_ret
 exact ⟨by first | (rw [← hr]; rfl) | (rw [← hr]; simp), hb⟩
theorem anyIntL (q : Int → Bool) (g : Nat) (lb : Array Value) (eg : ∀ args w, (callFunc g args).run Try.prog w = .ok (.enter g args) w) (A : Option Addr) (l : List Int) (c : Nat) (w : World) (hr : Kd.C (Kd.int .i64) w A l.length l)
  (hp : ∀ x W, Below w.heap.size w W → Calls Try.prog g (#[.int .i64 x] ++ lb) W fun e W' => e = .returned (.bool (q x)) ∧ Below W.heap.size W W') :
  Calls Try.prog 103 #[.slice A l.length c, .func (.func g) #[] lb] w fun e w' => e = .returned (.bool (l.any q)) ∧ Below w.heap.size w w' := by
 have h := anyInt (fun i => q (l.getD i 0)) (fun i => .int .i64 (l.getD i 0)) g lb eg A l.length c w hr.2.1
  (fun hn => by
   obtain ⟨ad, ea, _⟩ := hr.2.2 hn
   refine ⟨ad, ea, fun i hi => ?_⟩
   obtain ⟨ad', ea', hx⟩ := Kd.at_int hr (i : Int) (by omega) (by omega)
   cases ea
   cases ea'
   exact hx)
  (fun i hi W hb => hp _ W hb)
 rwa [anyI_list q 0 _ l (fun i _ => rfl)] at h
def litB (x vars : Int) : Bool := decide (x ≠ 0) && (decide (wrap64 (-vars) ≤ x) && decide (x ≤ vars))
def clauseB (c : List Int) (vars : Int) : Bool := decide (c.length ≤ 12) && !(c.any fun x => !(litB x vars))
theorem lit_is (x vars : Int) : impl_isLiteral.f x vars = some (litB x vars) := by
 unfold impl_isLiteral.f impl_within.f litB
 by_cases h : x = 0
 ·simp [h]
 ·by_cases h2 : wrap64 (-vars) ≤ x <;> simp [h, h2]
set_option maxHeartbeats 4000000 in
set_option maxRecDepth 100000 in
theorem isClause_fn (x vars : Int) (B : Nat) (W : World) (hB : W.cell? ⟨B, 0, none⟩ = some (.int .i64 vars)) :
  Calls Try.prog 104 #[.int .i64 x, .pointer (some ⟨B, 0, none⟩)] W fun e W' => e = .returned (.bool (!(litB x vars))) ∧ Below W.heap.size W W' := by
 have hcall := fun V => impl_isLiteral.calls x vars _ V (lit_is x vars)
 generalize litB x vars = b at hcall ⊢
 go_enter Try.func104, Try.ntmps104
 go_wp2_with (go_at_call 68; refine (hcall _).mono ?_; rintro e w' ⟨rfl, hd⟩)
 go_ret
 exact ⟨rfl, hd.below⟩
def impl_isClause.f (l0 : List Int) (a1 : Int) : Option Bool := some (clauseB l0 a1)
set_option maxHeartbeats 4000000 in
set_option maxRecDepth 100000 in
theorem impl_isClause.calls (A0 : Option Addr) (c0 : Nat) (l0 : List Int) (a1 : Int) (r : Bool) (w : World) (hr0 : Kd.C (Kd.int .i64) w A0 l0.length l0) (hc0 : l0.length ≤ c0) (h : impl_isClause.f l0 a1 = some r) :
  Calls Try.prog 61 #[.slice A0 l0.length c0, .int .i64 a1] w fun e w' => e = .returned (.bool r) ∧ Below w.heap.size w w' := by
 obtain rfl : clauseB l0 a1 = r := Option.some.inj h
 clear h
 unfold clauseB
 have hbox : (w.alloc (.cells #[.int .i64 a1] 3)).cell? ⟨w.heap.size, 0, none⟩ = some (.int .i64 a1) := by simp
 have hB0 : Below w.heap.size w (w.alloc (.cells #[.int .i64 a1] 3)) := (Below.refl _ _).alloc (Nat.le_refl _) _
 have hcon := anyIntL (fun x => !(litB x a1)) 104 #[.pointer (some ⟨w.heap.size, 0, none⟩)] (enters_of Try.func104 (by kernel_rfl) rfl) A0 l0 c0 (w.alloc (.cells #[.int .i64 a1] 3)) (Kd.C_below hr0 hB0)
  (fun x W hb => isClause_fn _ _ _ _ ((hb.cell (p := ⟨w.heap.size, 0, none⟩) (by simp)).trans hbox))
 generalize (l0.any fun x => !(litB x a1)) = b at hcon ⊢
 clear hbox hr0
 by_cases hle : l0.length ≤ 12
 ·rw [decide_eq_true hle, Bool.true_and]
  have hle2 : decide (l0.length ≤ 12) = true := decide_eq_true hle
  go_enter Try.func61, Try.ntmps61
  go_wp2_with (go_at_call 103; refine hcon.mono ?_; rintro e w' ⟨rfl, hb⟩)
  go_ret
  exact ⟨rfl, hB0.trans (hb.mono hB0.size)⟩
 ·rw [decide_eq_false hle, Bool.false_and]
  have hle2 : decide (l0.length ≤ 12) = false := decide_eq_false hle
  have hle3 : 12 < l0.length := by omega
  clear hcon
  go_enter Try.func61, Try.ntmps61
  go_wp2
  go_ret
  exact ⟨rfl, hB0⟩
set_option maxHeartbeats 4000000 in
theorem idxInts (p : Nat → Bool) (V : Nat → Value) (g : Nat) (lb : Array Value) (eg : ∀ args w, (callFunc g args).run Try.prog w = .ok (.enter g args) w) (A : Option Addr) (n c : Nat) (w : World) (hn : n ≤ 9223372036854775807)
  (hc : 0 < n → ∃ ad, A = some ad ∧ ∀ i, i < n → w.cell? (ad.add i) = some (V i))
  (hp : ∀ i, i < n → ∀ W, Below w.heap.size w W → Calls Try.prog g (#[V i] ++ lb) W fun e W' => e = .returned (.bool (p i)) ∧ Below W.heap.size W W') :
  Calls Try.prog 124 #[.slice A n c, .func (.func g) #[] lb] w fun e w' => (∃ r : Int, e = .returned (.int .i64 r) ∧ decide (0 ≤ r) = anyI p n) ∧ Below w.heap.size w w' := by
 have HP := Aside0.mk hp
 have HC := Aside0.mk hc
 clear hp hc
 go_enter Try.func124, Try.ntmps124
 go_wp2
 go_loopg [5, 8] n (fun gg _ s8 wr => ∃ kk : Nat, kk ≤ n ∧ n - kk ≤ gg ∧ s8 = .int .i64 kk ∧ Aside0 (Below w.heap.size w wr) ∧ Aside0 (∀ j, j < kk → p j = false))
 case atStart => exact ⟨0, Nat.zero_le _, by omega, rfl, ⟨Below.refl _ _⟩, ⟨fun j hj => absurd hj (Nat.not_lt_zero _)⟩⟩
 case round =>
  obtain ⟨kk, hkk, hg, rfl, HB, HN⟩ := hrel
  by_cases hlt : kk < n
  ·have hltz : (kk : Int) < (n : Int) := by omega
   obtain ⟨ad, ea, hcell0⟩ := HC.out (by omega)
   have hcell := (HB.out.cell (World.block_lt_of_cell? w _ (hcell0 kk hlt))).trans (hcell0 kk hlt)
   clear hcell0
   cases ea
   have hcall := HP.out kk hlt _ HB.out
   cases hq : p kk with
   | true =>
    rw [hq] at hcall
    have HQ := Aside0.mk hq
    clear hq
    go_wp2_with (go_at_fn g; refine hcall.mono ?_; rintro e w' ⟨rfl, hb⟩)
    go_ret
    refine ⟨⟨kk, rfl, ?_⟩, HB.out.trans (hb.mono HB.out.size)⟩
    rw [anyI_some hlt HQ.out, decide_eq_true (by omega)]
   | false =>
    rw [hq] at hcall
    have HQ := Aside0.mk hq
    clear hq
    go_wp2_with (go_at_fn g; refine hcall.mono ?_; rintro e w' ⟨rfl, hb⟩)
    go_roundg (n - (kk + 1))
    case measure => omega
    case rel =>
     refine ⟨kk + 1, by omega, by omega, by go_num, ⟨HB.out.trans (hb.mono HB.out.size)⟩, ⟨fun j hj => ?_⟩⟩
     by_cases e : j = kk
     ·subst e
      exact HQ.out
     ·exact HN.out j (by omega)
  ·have hltz : ¬ (kk : Int) < (n : Int) := by omega
   have : kk = n := by omega
   subst this
   go_wp2
   go_ret
   refine ⟨⟨-1, rfl, ?_⟩, HB.out⟩
   rw [anyI_none HN.out]
   rfl
set_option maxHeartbeats 4000000 in
theorem anyInts (p : Nat → Bool) (V : Nat → Value) (g : Nat) (lb : Array Value) (eg : ∀ args w, (callFunc g args).run Try.prog w = .ok (.enter g args) w) (A : Option Addr) (n c : Nat) (w : World) (hn : n ≤ 9223372036854775807)
  (hc : 0 < n → ∃ ad, A = some ad ∧ ∀ i, i < n → w.cell? (ad.add i) = some (V i))
  (hp : ∀ i, i < n → ∀ W, Below w.heap.size w W → Calls Try.prog g (#[V i] ++ lb) W fun e W' => e = .returned (.bool (p i)) ∧ Below W.heap.size W W') :
  Calls Try.prog 98 #[.slice A n c, .func (.func g) #[] lb] w fun e w' => e = .returned (.bool (anyI p n)) ∧ Below w.heap.size w w' := by
 have hcall := idxInts p V g lb eg A n c w hn hc hp
 clear hp hc
 go_enter Try.func98, Try.ntmps98
 go_wp2_with (go_at_call 124; refine hcall.mono ?_; rintro e w' ⟨⟨r, rfl, hr⟩, hb⟩)
 go_ret
 exact ⟨by first | (rw [← hr]; rfl) | (rw [← hr]; simp), hb⟩
theorem anyIntsL (q : List Int → Bool) (g : Nat) (lb : Array Value) (eg : ∀ args w, (callFunc g args).run Try.prog w = .ok (.enter g args) w) (A : Option Addr) (l : List (List Int)) (c : Nat) (w : World) (hr : Kd.C (Kd.slice 3 (Kd.int .i64)) w A l.length l)
  (hp : ∀ A0 c0 (x : List Int) W, Below w.heap.size w W → Kd.C (Kd.int .i64) W A0 x.length x → x.length ≤ c0 → Calls Try.prog g (#[.slice A0 x.length c0] ++ lb) W fun e W' => e = .returned (.bool (q x)) ∧ Below W.heap.size W W') :
  Calls Try.prog 98 #[.slice A l.length c, .func (.func g) #[] lb] w fun e w' => e = .returned (.bool (l.any q)) ∧ Below w.heap.size w w' := by
 have hV : ∀ i, i < l.length → ∃ v : Value, (∃ ad, A = some ad ∧ w.cell? (ad.add i) = some v) ∧ ∃ A0 c0, v = .slice A0 (l.getD i []).length c0 ∧ (l.getD i []).length ≤ c0 ∧ Kd.C (Kd.int .i64) w A0 (l.getD i []).length (l.getD i []) := by
  intro i hi
  obtain ⟨ad, A0, c0, ea, hx, hl, hC⟩ := at_L1 hr (i : Int) (by omega) (by omega)
  exact ⟨_, ⟨ad, ea, hx⟩, A0, c0, rfl, hl, hC⟩
 have hinh : Inhabited Value := ⟨.bool false⟩
 obtain ⟨V, hV⟩ := Go.Deep.choose_lt hV
 have h := anyInts (fun i => q (l.getD i [])) V g lb eg A l.length c w hr.2.1
  (fun hn => by
   obtain ⟨ad, ea, _⟩ := hr.2.2 hn
   refine ⟨ad, ea, fun i hi => ?_⟩
   obtain ⟨⟨ad', ea', hx⟩, _⟩ := hV i hi
   cases ea
   cases ea'
   exact hx)
  (fun i hi W hb => by
   obtain ⟨_, A0, c0, ev, hl, hC⟩ := hV i hi
   rw [ev]
   exact hp A0 c0 _ W hb (Kd.C_below hC hb) hl)
 rwa [anyI_list q [] _ l (fun i _ => rfl)] at h
def cnfB (vars : Int) (cs : List (List Int)) : Bool := decide (0 ≤ vars) && (decide (vars ≤ 40) && (decide (cs.length ≤ 300) && !(cs.any fun c => !(clauseB c vars))))
theorem below_drewN' {B : Nat} {a w : World} (h : Below B a w) (q : Nat) : Below B a (w.drewN q) := ⟨h.os, h.tape, h.output, h.size, h.block⟩
set_option maxHeartbeats 4000000 in
set_option maxRecDepth 100000 in
theorem isCnf_fn (A0 : Option Addr) (c0 : Nat) (l0 : List Int) (vars : Int) (B : Nat) (W : World) (hr0 : Kd.C (Kd.int .i64) W A0 l0.length l0) (hc0 : l0.length ≤ c0) (hB : W.cell? ⟨B, 0, none⟩ = some (.int .i64 vars)) :
  Calls Try.prog 99 #[.slice A0 l0.length c0, .pointer (some ⟨B, 0, none⟩)] W fun e W' => e = .returned (.bool (!(clauseB l0 vars))) ∧ Below W.heap.size W W' := by
 have hcall := fun V hV => impl_isClause.calls A0 c0 l0 vars _ V hV hc0 rfl
 have HR := Aside0.mk hr0
 clear hr0
 generalize clauseB l0 vars = b at hcall ⊢
 go_enter Try.func99, Try.ntmps99
 go_wp2_with (go_at_call 61; refine (hcall _ HR.out).mono ?_; rintro e w' ⟨rfl, hb⟩)
 go_ret
 exact ⟨rfl, hb⟩
def impl_isCnf.f (a0_0 : Int) (l0_1 : List (List Int)) : Option Bool := some (cnfB a0_0 l0_1)
set_option maxHeartbeats 4000000 in
set_option maxRecDepth 100000 in
theorem impl_isCnf.calls (a0_0 : Int) (A0_1 : Option Addr) (c0_1 : Nat) (l0_1 : List (List Int)) (r : Bool) (w : World) (hr0_1 : Kd.C (Kd.slice 3 (Kd.int .i64)) w A0_1 l0_1.length l0_1) (hc0_1 : l0_1.length ≤ c0_1) (h : impl_isCnf.f a0_0 l0_1 = some r) :
  Calls Try.prog 54 #[.agg #[.int .i64 a0_0, .slice A0_1 l0_1.length c0_1]] w fun e w' => e = .returned (.bool r) ∧ Below w.heap.size w w' := by
 obtain rfl : cnfB a0_0 l0_1 = r := Option.some.inj h
 clear h
 unfold cnfB
 have hu := Try.underlying30
 have hwi : ∀ V, Calls Try.prog 83 #[.int .i64 a0_0, .int .i64 0, .int .i64 40] V fun e V' => e = .returned (.bool (decide (0 ≤ a0_0) && decide (a0_0 ≤ 40))) ∧ Drawn0 V V' := fun V =>
  impl_within.calls a0_0 0 40 _ V (by
   unfold impl_within.f
   by_cases h : a0_0 ≥ 0
   ·rw [if_pos h, decide_eq_true h, Bool.true_and]
   ·rw [if_neg h, decide_eq_false h, Bool.false_and])
 have hcon := fun (W : World) (hbW : W.cell? ⟨w.heap.size, 0, none⟩ = some (.int .i64 a0_0)) (hlt : w.heap.size < W.heap.size) (hr : Kd.C (Kd.slice 3 (Kd.int .i64)) W A0_1 l0_1.length l0_1) =>
  anyIntsL (fun c => !(clauseB c a0_0)) 99 #[.pointer (some ⟨w.heap.size, 0, none⟩)] (enters_of Try.func99 (by kernel_rfl) rfl) A0_1 l0_1 c0_1 W hr
   (fun A0 c0 x W' hb hC hc => isCnf_fn A0 c0 x a0_0 _ W' hC hc ((hb.cell (p := ⟨w.heap.size, 0, none⟩) hlt).trans hbW))
 have hB0 : Below w.heap.size w (w.alloc (.cells #[.int .i64 a0_0, .slice A0_1 l0_1.length c0_1] 30)) := (Below.refl _ _).alloc (Nat.le_refl _) _
 have HR := Aside0.mk hr0_1
 have HC := Aside0.mk hc0_1
 clear hr0_1 hc0_1
 generalize (l0_1.any fun c => !(clauseB c a0_0)) = b at hcon ⊢
 cases hv : (decide (0 ≤ a0_0) && decide (a0_0 ≤ 40)) with
 | false =>
  have e1 : (decide (0 ≤ a0_0) && (decide (a0_0 ≤ 40) && (decide (l0_1.length ≤ 300) && !b))) = false := by rw [← Bool.and_assoc, hv, Bool.false_and]
  rw [e1]
  rw [hv] at hwi
  clear hcon hv e1
  go_enter Try.func54, Try.ntmps54
  go_wp2_with (go_at_call 83; refine (hwi _).mono ?_; rintro e w' ⟨rfl, ⟨nd, rfl⟩⟩)
  go_ret
  exact ⟨rfl, below_drewN' hB0 _⟩
 | true =>
  have e1 : (decide (0 ≤ a0_0) && (decide (a0_0 ≤ 40) && (decide (l0_1.length ≤ 300) && !b))) = (decide (l0_1.length ≤ 300) && !b) := by rw [← Bool.and_assoc, hv, Bool.true_and]
  rw [e1]
  rw [hv] at hwi
  clear hv e1
  by_cases hle : l0_1.length ≤ 300
  ·have hle2 : decide (l0_1.length ≤ 300) = true := decide_eq_true hle
   rw [hle2, Bool.true_and]
   go_enter Try.func54, Try.ntmps54
   go_wp2_with (first | (go_at_call 83; refine (hwi _).mono ?_; rintro e w' ⟨rfl, ⟨nd, rfl⟩⟩) | (go_at_call 98; refine (hcon _ (by simp) (by simp) (Kd.C_below HR.out (below_drewN' hB0 _))).mono ?_; rintro e w' ⟨rfl, hb⟩))
   go_ret
   exact ⟨rfl, (below_drewN' hB0 _).trans (hb.mono (below_drewN' hB0 _).size)⟩
  ·have hle2 : decide (l0_1.length ≤ 300) = false := decide_eq_false hle
   rw [hle2, Bool.false_and]
   have hle3 : 300 < l0_1.length := by omega
   clear hcon
   go_enter Try.func54, Try.ntmps54
   go_wp2_with (go_at_call 83; refine (hwi _).mono ?_; rintro e w' ⟨rfl, ⟨nd, rfl⟩⟩)
   go_ret
   exact ⟨rfl, below_drewN' hB0 _⟩
def impl_rank.f (a0 : Int) : Option (Int) := if a0 < 0 then (some (wrap64 (1 - (wrap64 (2 * a0))))) else (some (wrap64 (2 * a0)))
set_option maxHeartbeats 8000000 in
set_option maxRecDepth 100000 in
theorem impl_rank.calls (a0 : Int) (r : Int) (w : World) (h : impl_rank.f a0 = some r) :
  Calls Try.prog 128 #[.int .i64 a0] w fun e w' => e = .returned (.int .i64 r) ∧ Drawn0 w w' := by
 have H : (if a0 < 0 then (some (wrap64 (1 - (wrap64 (2 * a0))))) else (some (wrap64 (2 * a0)))) = some r := h
 clear h
 by_cases c2 : a0 < 0
 ·rw [if_pos c2] at H
  have c2b0 : decide (a0 < 0) = true := decide_eq_true c2
  clear c2
  obtain rfl := Option.some.inj H
  go_enter Try.func128, Try.ntmps128
  go_wp2
  go_ret
  exact ⟨by first | rfl | (simp; done) | (simp [*]; done), by repeat (first | exact Drawn0.refl _ | apply Drawn0.step)⟩
 ·rw [if_neg c2] at H
  have c2b0 : decide (a0 < 0) = false := decide_eq_false c2
  clear c2
  obtain rfl := Option.some.inj H
  go_enter Try.func128, Try.ntmps128
  go_wp2
  go_ret
  exact ⟨by first | rfl | (simp; done) | (simp [*]; done), by repeat (first | exact Drawn0.refl _ | apply Drawn0.step)⟩
def impl_compareLiterals.f (a0 : Int) (a1 : Int) : Option (Int) := (impl_rank.f a0).bind fun t134 => ((impl_rank.f a1).bind fun t135 => (some (wrap64 (t134 - t135))))
set_option maxHeartbeats 8000000 in
set_option maxRecDepth 100000 in
theorem impl_compareLiterals.calls (a0 : Int) (a1 : Int) (r : Int) (w : World) (h : impl_compareLiterals.f a0 a1 = some r) :
  Calls Try.prog 115 #[.int .i64 a0, .int .i64 a1] w fun e w' => e = .returned (.int .i64 r) ∧ Drawn0 w w' := by
 have H : ((impl_rank.f a0).bind fun t134 => ((impl_rank.f a1).bind fun t135 => (some (wrap64 (t134 - t135))))) = some r := h
 clear h
 replace H := Option.bind_eq_some_iff.mp H
 obtain ⟨t134, A30, H⟩ := H
 replace H : ((impl_rank.f a1).bind fun t135 => (some (wrap64 (t134 - t135)))) = some r := H
 have A3 := Aside0.mk A30
 clear A30
 replace H := Option.bind_eq_some_iff.mp H
 obtain ⟨t135, A40, H⟩ := H
 replace H : (some (wrap64 (t134 - t135))) = some r := H
 have A4 := Aside0.mk A40
 clear A40
 obtain rfl := Option.some.inj H
 go_enter Try.func115, Try.ntmps115
 go_wp2_with (first | ((with_reducible refine gate_callee (f := 128) rfl ?_); refine goesL_ (some 6) rfl rfl Try.func128 (by kernel_rfl) rfl #[.int .i64 a0] rfl (by (try simp only [List.map_toArray, List.map_cons, List.map_nil]); first | done | rfl | (simp only [List.length_drop, List.length_take]; rfl)) ?_; (with_reducible refine (impl_rank.calls a0 t134 _ A3.out).mono ?_); rintro e w' ⟨rfl, ⟨nd, rfl⟩⟩; refine ⟨_, rfl, ?_⟩) | ((with_reducible refine gate_callee (f := 128) rfl ?_); refine goesL_ (some 8) rfl rfl Try.func128 (by kernel_rfl) rfl #[.int .i64 a1] rfl (by (try simp only [List.map_toArray, List.map_cons, List.map_nil]); first | done | rfl | (simp only [List.length_drop, List.length_take]; rfl)) ?_; (with_reducible refine (impl_rank.calls a1 t135 _ A4.out).mono ?_); rintro e w' ⟨rfl, ⟨nd, rfl⟩⟩; refine ⟨_, rfl, ?_⟩))
 go_ret
 exact ⟨by first | rfl | (simp; done) | (simp [*]; done), by repeat (first | exact Drawn0.refl _ | apply Drawn0.step)⟩
end Go.Proofs.Ytelfahcjeldliaa.PFnExactNormalCnf
end
section
namespace Go.Proofs.Ytelfahcjeldliaa.PFnExactNormalCnf
open Go.RowKit Go.Proofs.YtelfahcjeldliaaW.PrintWords Go.Proofs.YtelfahcjeldliaaW.PrintLast Go.Proofs.YtelfahcjeldliaaW.PrintMore
attribute [local go_sem] max2_int min2_int max_two min_two max_three min_three max_four min_four   -- for this text's walks alone
set_option linter.unusedVariables false
set_option linter.unusedSimpArgs false
def setM : List Int → Nat → List Int → List Int
 | xs, _, [] => xs
 | xs, o, y :: r => setM (xs.set o y) (o + 1) r
theorem setM_get : ∀ (ys : List Int) (xs : List Int) (o j : Nat), o + ys.length ≤ xs.length → (setM xs o ys)[j]? = if o ≤ j ∧ j < o + ys.length then ys[j - o]? else xs[j]?
 | [], xs, o, j, _ => by rw [setM, if_neg (by simp only [List.length_nil]; omega)]
 | y :: r, xs, o, j, h => by
  have hl : o + (r.length + 1) ≤ xs.length := by simpa using h
  rw [setM, setM_get r _ (o + 1) j (by simp; omega)]
  simp only [List.length_cons]
  by_cases e : j = o
  ·subst e
   rw [if_neg (by omega), if_pos (by omega), Nat.sub_self, List.getElem?_set, if_pos rfl, if_pos (by omega)]
   rfl
  ·by_cases c : o + 1 ≤ j ∧ j < o + 1 + r.length
   ·rw [if_pos c, if_pos (by omega)]
    obtain ⟨t, rfl⟩ : ∃ t, j = o + 1 + t := ⟨j - (o + 1), by omega⟩
    rw [show o + 1 + t - (o + 1) = t by omega, show o + 1 + t - o = t + 1 by omega]
    simp
   ·rw [if_neg c, if_neg (by omega), List.getElem?_set, if_neg (fun h_ => e h_.symm)]
theorem setM_all (xs ys : List Int) (h : ys.length = xs.length) : setM xs 0 ys = ys := by
 apply List.ext_getElem?
 intro j
 rw [setM_get ys xs 0 j (by omega)]
 by_cases c : j < ys.length
 ·rw [if_pos (by omega), Nat.sub_zero]
 ·rw [if_neg (by omega), List.getElem?_eq_none (by omega), List.getElem?_eq_none (by omega)]
theorem R_cells {e base b n cap : Nat} : ∀ (ys : List Int) (o : Nat) (xs : List Int) (W0 wr : World), Kd.R (Kd.int .i64) e wr base (fun _ => True) (.slice (some ⟨b, 0, none⟩) n cap) xs → Below b W0 wr → Kd.R (Kd.int .i64) e (wr.setCells b o (ys.map (Value.int .i64))) base (fun _ => True) (.slice (some ⟨b, 0, none⟩) n cap) (setM xs o ys) ∧ Below b W0 (wr.setCells b o (ys.map (Value.int .i64)))
 | [], o, xs, W0, wr, hR, hB => ⟨hR, hB⟩
 | y :: r, o, xs, W0, wr, hR, hB => by
  have h1 := (Kd.R_putg hR (o : Int) y).1
  rw [Int.toNat_natCast] at h1
  exact R_cells r (o + 1) (xs.set o y) W0 (wr.setCell ⟨b, o, none⟩ (.int .i64 y)) h1 (hB.setCell (Nat.le_refl _) _)
theorem R_putrow {e base b cap : Nat} {W : World} {xs : List Int} (ys : List Int) (q : Nat) (hR : Kd.R (Kd.int .i64) e W base (fun _ => True) (.slice (some ⟨b, 0, none⟩) xs.length cap) xs) (h : ys.length = xs.length) : Kd.R (Kd.int .i64) e ((W.drewN q).setCells b 0 (ys.map (Value.int .i64))) base (fun _ => True) (.slice (some ⟨b, 0, none⟩) ys.length cap) ys ∧ Below b W ((W.drewN q).setCells b 0 (ys.map (Value.int .i64))) := by
 have hd : Below W.heap.size W (W.drewN q) := pw_below_drewN (Below.refl _ _) q
 have hd2 : Below b W (W.drewN q) := pw_below_drewN (Below.refl _ _) q
 have k := R_cells ys 0 xs W (W.drewN q) (Kd.R_below hR hd) hd2
 rw [setM_all xs ys h] at k
 rw [h]
 exact k
theorem R_holds {e base b cap : Nat} {W : World} {xs : List Int} (hR : Kd.R (Kd.int .i64) e W base (fun _ => True) (.slice (some ⟨b, 0, none⟩) xs.length cap) xs) : Go.Sort.Holds (Value.int .i64) W b 0 xs.toArray := by
 intro j hj
 have hj2 : j < xs.length := by simpa using hj
 have k := Kd.R_celln 0 hR (j : Int) (Int.natCast_nonneg _) (Int.ofNat_lt.2 hj2)
 rw [Int.toNat_natCast] at k
 rw [Nat.zero_add]
 refine ⟨k.1.trans ?_, k.2⟩
 congr 2
 unfold rdOf
 rw [Int.toNat_natCast]
 simp [List.getD, hj2]
theorem below_grow (X : World) (os : Array Obj) : Below X.heap.size X (Go.Sort.grow X os) :=
 ⟨rfl, rfl, rfl, by show _ ≤ (X.heap ++ os).size; rw [Array.size_append]; omega, fun k hk => by show (X.heap ++ os)[k]? = _; rw [Array.getElem?_append_left hk]⟩
abbrev RI := {x : Int // inR x}
instance : Inhabited RI := ⟨⟨0, by decide⟩⟩
def toR (x : Int) : RI := if h : inR x then ⟨x, h⟩ else default
theorem toR_val {x : Int} (h : inR x) : (toR x).1 = x := by unfold toR; rw [dif_pos h]
def encR (x : RI) : Value := .int .i64 x.1
def cfR (x y : RI) : Int := rk x.1 - rk y.1
theorem ltR (x y : RI) : ltOf cfR x y = decide (rk x.1 < rk y.1) := by
 unfold ltOf cfR
 apply decide_eq_decide.2
 omega
theorem swoR : Go.Sort.SWO (ltOf cfR) where
 irrefl x := by rw [ltR]; simp
 trans x y z h1 h2 := by rw [ltR] at *; simp at *; omega
 ntrans x y z h1 h2 := by rw [ltR] at *; simp at *; omega
theorem totR (x y : RI) (h1 : ltOf cfR x y = false) (h2 : ltOf cfR y x = false) : x = y := by
 rw [ltR] at h1 h2
 have a := of_decide_eq_false h1
 have b := of_decide_eq_false h2
 exact Subtype.ext (rk_inj (by omega))
def leR (x y : Int) : Bool := decide (rk x ≤ rk y)
theorem rank_is {a : Int} (ha : inR a) : impl_rank.f a = some (rk a) := by
 obtain ⟨h1, h2⟩ := ha
 have e1 : wrap64 (2 * a) = 2 * a := IntWalk.wrap64_in _ ⟨by omega, by omega⟩
 have e2 : wrap64 (1 - 2 * a) = 1 - 2 * a := IntWalk.wrap64_in _ ⟨by omega, by omega⟩
 unfold impl_rank.f rk
 rw [e1, e2]
 split <;> rfl
theorem compare_is (x y : RI) : impl_compareLiterals.f x.1 y.1 = some (cfR x y) := by
 unfold impl_compareLiterals.f cfR
 rw [rank_is x.2, rank_is y.2, Option.bind_some, Option.bind_some]
 congr 1
 have h1 := x.2
 have h2 := y.2
 unfold inR at h1 h2
 have k1 : -2000001 ≤ rk x.1 ∧ rk x.1 ≤ 2000001 := by unfold rk; split <;> omega
 have k2 : -2000001 ≤ rk y.1 ∧ rk y.1 ≤ 2000001 := by unfold rk; split <;> omega
 exact IntWalk.wrap64_in _ ⟨by omega, by omega⟩
theorem cmpR (blk off size : Nat) (w : World) : CmpReads Try.prog 115 #[] encR cfR blk off size w := fun m os dk _ x y =>
 (impl_compareLiterals.calls x.1 y.1 _ _ (compare_is x y)).mono fun e w' h => ⟨h.1, h.2.out⟩
theorem encs_eq (l : List RI) : l.map encR = (l.map (·.1)).map (Value.int .i64) := by
 rw [List.map_map]; rfl
def sortL (l : List Int) : List Int := l.mergeSort leR
theorem sortL_map (l : List RI) : (l.mergeSort fun x y => !(ltOf cfR) y x).map (·.1) = sortL (l.map (·.1)) := by
 unfold sortL
 apply List.map_mergeSort
 intro a _ b _
 rw [ltR]
 unfold leR
 by_cases h : rk a.1 ≤ rk b.1
 ·rw [decide_eq_true h, decide_eq_false (by omega)]; rfl
 ·rw [decide_eq_false h, decide_eq_true (by omega)]; rfl
theorem map_toR {l : List Int} (h : ∀ x ∈ l, inR x) : (l.map toR).map (·.1) = l := by
 rw [List.map_map]
 conv => rhs; rw [← List.map_id l]
 exact List.map_congr_left fun x hx => toR_val (h x hx)
set_option maxHeartbeats 1000000 in
theorem sort_any (l : List Int) (b cap base : Nat) (W : World) (hR : Kd.R (Kd.int .i64) 3 W base (fun _ => True) (.slice (some ⟨b, 0, none⟩) l.length cap) l) (hin : ∀ x ∈ l, inR x) (hb : b < W.heap.size) (hn : l.length ≤ 4096) :
  Calls Try.prog 114 #[.slice (some ⟨b, 0, none⟩) l.length cap, .func (.func 115) #[] #[]] W fun e W' => e = .returned (.tuple #[]) ∧ Kd.R (Kd.int .i64) 3 W' base (fun _ => True) (.slice (some ⟨b, 0, none⟩) l.length cap) (sortL l) ∧ Below b W W' := by
 have hm := map_toR hin
 have hsz : (l.map toR).toArray.size = l.length := by simp
 have hH : Go.Sort.Holds encR W b 0 (l.map toR).toArray := by
  intro j hj
  have k := R_holds hR j (by simpa using hj)
  refine ⟨k.1.trans ?_, k.2⟩
  have hj2 : j < l.length := by simpa using hj
  have hv : (toR l[j]).1 = l[j] := toR_val (hin _ (List.getElem_mem hj2))
  simp only [encR]
  congr 2
  simp [hj2, hv]
 have hS := Any.slices_SortFunc_total Try.sortL encR (fun _ => rfl) cfR swoR 115 #[] b 0 cap (l.map toR).toArray W (enters_of Try.func115 (by kernel_rfl) rfl) (cmpR b 0 _ W).lays hH hb (by rw [hsz]; omega) totR
 rw [hsz] at hS
 change Calls Try.prog 114 _ _ _ at hS
 refine hS.mono ?_
 rintro e W' ⟨rfl, n, os, rfl⟩
 refine ⟨rfl, ?_⟩
 have e1 : ((l.map toR).mergeSort fun x y => !(ltOf cfR) y x).map (·.1) = sortL l := by rw [sortL_map, hm]
 have hl1 : ((l.map toR).mergeSort fun x y => !(ltOf cfR) y x).length = (l.map toR).toArray.size := by rw [List.length_mergeSort]; simp
 have e2 := Lib.putRow_eq_setCells encR W b 0 (l.map toR).toArray ((l.map toR).mergeSort fun x y => !(ltOf cfR) y x) n hH hl1
 rw [encs_eq, e1] at e2
 have hl : (sortL l).length = l.length := by unfold sortL; rw [List.length_mergeSort]
 obtain ⟨k1, k2⟩ := R_putrow (sortL l) n hR hl
 rw [hl] at k1
 unfold sortWorld
 rw [show (l.map toR).toArray.toList = l.map toR from rfl, e2]
 have hg : ∀ X : World, Below X.heap.size X (Go.Sort.grow X os) := fun X => below_grow X os
 exact ⟨Kd.R_below k1 (hg _), k2.trans ((hg _).mono (Nat.le_trans (Nat.le_of_lt hb) k2.size))⟩
theorem compact_any (l : List Int) (b cap base : Nat) (W : World) (hR : Kd.R (Kd.int .i64) 3 W base (fun _ => True) (.slice (some ⟨b, 0, none⟩) l.length cap) l) (hn : l.length ≤ 4096) :
  Calls Try.prog 116 #[.slice (some ⟨b, 0, none⟩) l.length cap] W fun e W' => ∃ v, e = .returned v ∧ Kd.R (Kd.int .i64) 3 W' base (fun _ => True) v (Lib.compact l) ∧ Below b W W' := by
 have hcap : l.length ≤ cap := (Kd.R_reads' hR).2.1
 have hC := AnyG.slices_Compact_int Try.compL b 0 cap l W (R_holds hR) (by omega) hcap
 change Calls Try.prog 116 _ _ _ at hC
 refine hC.mono ?_
 rintro e W' ⟨rfl, q, rfl⟩
 have hle := Lib.compact_length_le l
 have hl : (Lib.compact l ++ List.replicate (l.length - (Lib.compact l).length) 0).length = l.length := by rw [List.length_append, List.length_replicate]; omega
 have e2 := Lib.putRow_eq_setCells (Value.int .i64) W b 0 l.toArray (Lib.compact l ++ List.replicate (l.length - (Lib.compact l).length) 0) q (R_holds hR) (by rw [hl]; simp)
 obtain ⟨k1, k2⟩ := R_putrow (Lib.compact l ++ List.replicate (l.length - (Lib.compact l).length) 0) q hR hl
 rw [e2]
 have k3 := Kd.R_take k1 (m := (Lib.compact l).length) (by rw [List.length_append]; omega)
 rw [List.take_left] at k3
 exact ⟨_, rfl, k3, k2⟩
set_option maxHeartbeats 4000000 in
set_option maxRecDepth 100000 in
theorem clone_all (A : Option Addr) (c : Nat) (l : List Int) (W : World) (hl : Kd.C (Kd.int .i64) W A l.length l) (hn : l.length ≤ 4096) :
  Calls Try.prog 113 #[.slice A l.length c] W fun e W' => ∃ v, e = .returned v ∧ Kd.R (Kd.int .i64) 3 W' W.heap.size (fun _ => True) v l ∧ Below W.heap.size W W' := by
 cases A with
 | none =>
  have h0 : l.length = 0 := by
   rcases Nat.eq_zero_or_pos l.length with h | h
   ·exact h
   ·obtain ⟨ad, ea, -⟩ := Kd.at_int hl 0 (by omega) (by omega)
    cases ea
  obtain rfl : l = [] := List.eq_nil_of_length_eq_zero h0
  have hq := fun (w : World) => Lib.run_eql_slice_nil w 37 3 none 0 c 0 0 Try.underlying37
  clear hl
  go_enter Try.func113, Try.ntmps113
  go_wp2
  go_ret
  exact ⟨_, rfl, Kd.R_nil _ _ _ _ _, Below.refl _ _⟩
 | some ad =>
  have HL := Aside0.mk hl
  have hq := fun (w : World) => Lib.run_eql_slice_nil w 37 3 (some ad) l.length c 0 0 Try.underlying37
  clear hl
  go_enter Try.func113, Try.ntmps113
  go_wp2_with (first
   | ((with_reducible refine gate_dst (N := 5) rfl ?_); refine Kd.R_lit (Kd.int .i64) _ 3 ?hg (N := 5) ?hd (xs := ([] : List Int)) (inner := []) (ok := fun _ => True) (okp := fun _ => True) ?hr ?hp (fun _ hk => hk) trivial (Below.refl _ _) (Nat.le_refl _) (by simp) ?_; (case hd => rfl); (case hg => rfl); (case hr => first | (go_simp; done) | (go_simp; rfl)); (case hp => exact (Reps.none _ _)); intro v1 w3 ho hb hg_ hnew_; clear hg_ hnew_; have HR := Aside0.mk ho; have HB := Aside0.mk hb; clear ho hb)
   | ((with_reducible refine gate_builtin (b := .append) (xs := #[.tmp 5, .tmp 6]) rfl ?_); at_builtin; refine Kd.R_append_rows (Kd.int .i64) (w0 := W) W.heap.size rfl (.tmp 5) (.tmp 6) 37 3 (.int .i64 0) 8 rfl Try.underlying37 info3 rfl (by decide) (by omega) v1 [] l _ _ _ (fun _ => True) (fun _ => False) rfl rfl ?aO ?aR (fun _ _ h => h) (fun _ h => h.elim) ?aF ?aB ?aS ?aL ?_; (case aR => exact Kd.C_below HL.out HB.out); (case aB => exact HB.out); (case aF => exact (fun _ _ => trivial)); (case aO => exact HR.out); (case aS => exact below_size HB.out); (case aL => simp; omega); intro v2 w7 ho hb hg hat; have HR2 := Aside0.mk ho; have HB2 := Aside0.mk hb; clear ho hb hg hat))
  go_ret
  exact ⟨v2, rfl, HR2.out, HB2.out⟩
def ordL (l : List Int) : List Int := Lib.compact (sortL l)
def impl_inOrder.f (l : List Int) : Option (List Int) := if l.length ≤ 4096 ∧ ∀ x ∈ l, inR x then some (ordL l) else none
set_option maxHeartbeats 4000000 in
set_option maxRecDepth 100000 in
theorem impl_inOrder.calls (A0 : Option Addr) (c0 : Nat) (l0 : List Int) (r : List Int) (w : World) (hr0 : Kd.C (Kd.int .i64) w A0 l0.length l0) (hc0 : l0.length ≤ c0) (h : impl_inOrder.f l0 = some r) :
  Calls Try.prog 85 #[.slice A0 l0.length c0] w fun e w' => ∃ v0_ : Value, e = .returned v0_ ∧ Kd.R (Kd.int .i64) 3 w' w.heap.size (fun _ => True) v0_ r ∧ Below w.heap.size w w' := by
 unfold impl_inOrder.f at h
 by_cases hg : l0.length ≤ 4096 ∧ ∀ x ∈ l0, inR x
 rotate_left
 ·rw [if_neg hg] at h
  cases h
 rw [if_pos hg] at h
 obtain ⟨hn, hin⟩ := hg
 obtain rfl := Option.some.inj h
 clear h
 have hcl := clone_all A0 c0 l0 w hr0 hn
 have HIN := Aside0.mk hin
 clear hr0 hin
 by_cases hp : l0.length = 0
 ·obtain rfl : l0 = [] := List.eq_nil_of_length_eq_zero hp
  have hs := fun (A : Option Addr) (c : Nat) (W : World) => AnyF.slices_SortFunc_none (P := Try.prog) (ρ := Try.sortL_ren) { Try.sortL with } A c (.func (.func 115) #[] #[]) W
  have hc := fun (A : Option Addr) (c : Nat) (W : World) => AnyG.slices_Compact_int_empty Try.compL A c W
  change ∀ A c W, Calls Try.prog 114 _ _ _ at hs
  change ∀ A c W, Calls Try.prog 116 _ _ _ at hc
  go_enter Try.func85, Try.ntmps85
  go_wp2_with (first
   | (go_at_call 113; refine hcl.mono ?_; rintro e w2 ⟨v, rfl, hR, hb⟩; clear hcl; obtain ⟨A2, c2, e2⟩ := Kd.R_slice hR; subst e2; have HR := Aside0.mk hR; have HB := Aside0.mk hb; clear hR hb)
   | (go_at_call 114; refine (hs _ _ _).mono ?_; rintro e w3 ⟨rfl, rfl⟩)
   | (go_at_call 116; refine (hc _ _ _).mono ?_; rintro e w4 ⟨rfl, rfl⟩))
  go_ret
  have e0 : ordL [] = [] := by unfold ordL sortL; rw [List.mergeSort_nil]; rfl
  rw [e0]
  exact ⟨_, rfl, HR.out, HB.out⟩
 ·have hp1 : 0 < l0.length := Nat.pos_of_ne_zero hp
  go_enter Try.func85, Try.ntmps85
  go_wp2_with (first
   | (go_at_call 113; refine hcl.mono ?_; rintro e w2 ⟨v, rfl, hR, hb⟩; clear hcl; obtain ⟨b, cap, ev, hb0, hb1, -⟩ := Kd.R_form hR hp1; subst ev; have hst := sort_any l0 b cap w.heap.size w2 hR HIN.out hb1 hn; have HB := Aside0.mk hb; clear hR hb)
   | (go_at_call 114; refine hst.mono ?_; rintro e w3 ⟨rfl, hR, hb⟩; clear hst; have hls : (sortL l0).length = l0.length := List.length_mergeSort _; have hcp := compact_any (sortL l0) b cap w.heap.size w3 (by rw [hls]; exact hR) (by rw [hls]; exact hn); rw [hls] at hcp; have HB2 := Aside0.mk (HB.out.trans (hb.mono hb0)); clear hR hb HB)
   | (go_at_call 116; refine hcp.mono ?_; rintro e w4 ⟨v4, rfl, hR, hb⟩; clear hcp; have HR := Aside0.mk hR; have HB := Aside0.mk (HB2.out.trans (hb.mono hb0)); clear hR hb HB2))
  go_ret
  exact ⟨_, rfl, HR.out, HB.out⟩
def idxL (x : Int) : List Int → Nat → Int
 | [], _ => -1
 | y :: r, i => if x = y then (i : Int) else idxL x r (i + 1)
set_option maxHeartbeats 4000000 in
theorem index_any (x : Int) (A : Option Addr) (c : Nat) (l : List Int) (W : World) (hl : Kd.C (Kd.int .i64) W A l.length l) :
  Calls Try.prog 112 #[.slice A l.length c, .int .i64 x] W fun e W' => e = .returned (.int .i64 (idxL x l 0)) ∧ W' = W := by
 have HL := Aside0.mk hl
 have hmax : l.length ≤ 9223372036854775807 := Kd.C_max hl
 clear hl
 obtain ⟨r, hr⟩ : ∃ r, idxL x l 0 = r := ⟨_, rfl⟩
 rw [hr]
 have H' : Aside0 (idxL x (l.drop 0) 0 = r) := ⟨by rw [List.drop_zero]; exact hr⟩
 clear hr
 go_enter Try.func112, Try.ntmps112
 go_wp2
 go_loopg [8] l.length (fun gg v8 wr => ∃ (kk : Nat), v8 = .int .i64 kk ∧ kk ≤ l.length ∧ l.length - kk ≤ gg ∧ Aside0 (idxL x (l.drop kk) kk = r) ∧ wr = W)
 case atStart => exact ⟨0, rfl, Nat.zero_le _, by omega, H', rfl⟩
 case round =>
  clear H'
  obtain ⟨kk, rfl, hk, hg, HA, rfl⟩ := hrel
  by_cases hlt : kk < l.length
  ·have hltz : (kk : Int) < (l.length : Int) := by omega
   have h0z : (0 : Int) ≤ (kk : Int) := by omega
   obtain ⟨ad, ea, hx⟩ := Kd.at_int HL.out (kk : Int) h0z hltz
   subst ea
   rw [Int.toNat_natCast] at hx
   have hrd : rd l (kk : Int) = l[kk] := by unfold rd; simp [List.getD, hlt]
   have hA := HA.out
   rw [List.drop_eq_getElem_cons hlt, idxL, ← hrd] at hA
   have ew : IntKind.i64.wrap ((kk : Int) + 1) = ((kk + 1 : Nat) : Int) := IntWalk.i64_in _ (by omega)
   clear hrd HA
   generalize rd l (kk : Int) = y at hx hA
   by_cases h0 : x = y
   ·rw [if_pos h0] at hA
    subst h0
    subst hA
    go_wp2
    go_ret
    exact ⟨rfl, rfl⟩
   ·rw [if_neg h0] at hA
    have h02 : (x == y) = false := beq_eq_false_iff_ne.mpr h0
    have HA2 := Aside0.mk hA
    clear hA
    go_wp2
    go_roundg (gk - 1)
    case measure => omega
    case rel => exact ⟨kk + 1, rfl, by omega, by omega, HA2, rfl⟩
  ·have hA := HA.out
   obtain rfl : kk = l.length := by omega
   rw [List.drop_length, idxL] at hA
   subst hA
   go_wp2
   go_ret
   exact ⟨rfl, rfl⟩
set_option maxHeartbeats 800000 in
theorem contains_any (x : Int) (A : Option Addr) (c : Nat) (l : List Int) (W : World) (hl : Kd.C (Kd.int .i64) W A l.length l) :
  Calls Try.prog 84 #[.slice A l.length c, .int .i64 x] W fun e W' => e = .returned (.bool (decide (0 ≤ idxL x l 0))) ∧ W' = W := by
 have hcall := index_any x A c l W hl
 clear hl
 generalize idxL x l 0 = r at hcall ⊢
 go_enter Try.func84, Try.ntmps84
 go_wp2_with (go_at_call 112; refine hcall.mono ?_; rintro e w' ⟨rfl, rfl⟩)
 go_ret
 exact ⟨rfl, rfl⟩
def tautL (l : List Int) : Bool := l.any fun x => decide (0 ≤ idxL (wrap64 (-x)) l 0)
set_option maxHeartbeats 4000000 in
theorem isTautology_fn (x : Int) (B : Nat) (A : Option Addr) (c : Nat) (l : List Int) (W : World) (hB : W.cell? ⟨B, 0, none⟩ = some (.slice A l.length c)) (hl : Kd.C (Kd.int .i64) W A l.length l) :
  Calls Try.prog 120 #[.int .i64 x, .pointer (some ⟨B, 0, none⟩)] W fun e W' => e = .returned (.bool (decide (0 ≤ idxL (wrap64 (-x)) l 0))) ∧ Below W.heap.size W W' := by
 have hcall := contains_any (wrap64 (-x)) A c l W hl
 generalize decide (0 ≤ idxL (wrap64 (-x)) l 0) = b at hcall ⊢
 clear hl
 go_enter Try.func120, Try.ntmps120
 go_wp2_with (go_at_call 84; refine hcall.mono ?_; rintro e w' ⟨rfl, rfl⟩)
 go_ret
 exact ⟨rfl, Below.refl _ _⟩
def impl_isTautology.f (l0 : List Int) : Option Bool := some (tautL l0)
set_option maxHeartbeats 4000000 in
set_option maxRecDepth 100000 in
theorem impl_isTautology.calls (A0 : Option Addr) (c0 : Nat) (l0 : List Int) (r : Bool) (w : World) (hr0 : Kd.C (Kd.int .i64) w A0 l0.length l0) (hc0 : l0.length ≤ c0) (h : impl_isTautology.f l0 = some r) :
  Calls Try.prog 88 #[.slice A0 l0.length c0] w fun e w' => e = .returned (.bool r) ∧ Below w.heap.size w w' := by
 obtain rfl : tautL l0 = r := Option.some.inj h
 clear h
 unfold tautL
 have hbox : (w.alloc (.cells #[.slice A0 l0.length c0] 37)).cell? ⟨w.heap.size, 0, none⟩ = some (.slice A0 l0.length c0) := by simp
 have hB0 : Below w.heap.size w (w.alloc (.cells #[.slice A0 l0.length c0] 37)) := (Below.refl _ _).alloc (Nat.le_refl _) _
 have hcon := anyIntL (fun x => decide (0 ≤ idxL (wrap64 (-x)) l0 0)) 120 #[.pointer (some ⟨w.heap.size, 0, none⟩)] (enters_of Try.func120 (by kernel_rfl) rfl) A0 l0 c0 (w.alloc (.cells #[.slice A0 l0.length c0] 37)) (Kd.C_below hr0 hB0)
  (fun x W hb => isTautology_fn _ _ _ _ _ _ ((hb.cell (p := ⟨w.heap.size, 0, none⟩) (by simp)).trans hbox) (Kd.C_below (Kd.C_below hr0 hB0) hb))
 generalize (l0.any fun x => decide (0 ≤ idxL (wrap64 (-x)) l0 0)) = b at hcon ⊢
 clear hbox hr0
 go_enter Try.func88, Try.ntmps88
 go_wp2_with (go_at_call 103; refine hcon.mono ?_; rintro e w' ⟨rfl, hb⟩)
 go_ret
 exact ⟨rfl, (hB0.trans (hb.mono hB0.size))⟩
def cmpL : List Int → List Int → Int
 | [], [] => 0
 | [], _ :: _ => -1
 | _ :: _, [] => 1
 | x :: r, y :: s => if rk x - rk y = 0 then cmpL r s else rk x - rk y
theorem lit_cmp {x y : Int} (hx : inR x) (hy : inR y) : impl_compareLiterals.f x y = some (rk x - rk y) := compare_is ⟨x, hx⟩ ⟨y, hy⟩
set_option maxHeartbeats 2000000 in
set_option maxRecDepth 100000 in
theorem compareFunc_calls (A : Option Addr) (c : Nat) (l : List Int) (A' : Option Addr) (c' : Nat) (l' : List Int) (w : World) (hr : Kd.C (Kd.int .i64) w A l.length l) (hr' : Kd.C (Kd.int .i64) w A' l'.length l') (hi : ∀ x ∈ l, inR x) (hi' : ∀ x ∈ l', inR x) :
  Calls Try.prog 123 #[.slice A l.length c, .slice A' l'.length c', .func (.func 115) #[] #[]] w fun e w' => e = .returned (.int .i64 (cmpL l l')) ∧ Drawn0 w w' := by
 have eg := enters_of Try.func115 (by kernel_rfl) rfl
 have HR := Aside0.mk hr
 have HR' := Aside0.mk hr'
 have HI := Aside0.mk hi
 have HI' := Aside0.mk hi'
 have hmax : l.length ≤ 9223372036854775807 := Kd.C_max hr
 clear hr hr' hi hi'
 go_enter Try.func123, Try.ntmps123
 go_wp2
 go_loopg [13] l.length (fun gg v13 wr => ∃ (kk : Nat), v13 = .int .i64 kk ∧ kk ≤ l.length ∧ kk ≤ l'.length ∧ l.length - kk ≤ gg ∧ Aside0 (cmpL l l' = cmpL (l.drop kk) (l'.drop kk)) ∧ Drawn0 w wr)
 case atStart => exact ⟨0, rfl, Nat.zero_le _, Nat.zero_le _, by omega, ⟨rfl⟩, Drawn0.refl _⟩
 case round =>
  obtain ⟨kk, rfl, hk, hk', hg, HF, ⟨m1, rfl⟩⟩ := hrel
  by_cases hlt : kk < l.length
  ·have hltz : (kk : Int) < (l.length : Int) := by omega
   have h0z : (0 : Int) ≤ (kk : Int) := by omega
   obtain ⟨ad, ea, hx⟩ := Kd.at_int HR.out (kk : Int) h0z hltz
   subst ea
   have hrd : rd l (kk : Int) = l[kk] := by unfold rd; simp [List.getD, hlt]
   rw [hrd, Int.toNat_natCast] at hx
   have ew : IntKind.i64.wrap ((kk : Int) + 1) = ((kk + 1 : Nat) : Int) := IntWalk.i64_in _ (by omega)
   have hf := HF.out
   rw [List.drop_eq_getElem_cons hlt] at hf
   by_cases hlt' : kk < l'.length
   ·have hltz' : (kk : Int) < (l'.length : Int) := by omega
    have hge : decide (l'.length ≤ kk) = false := decide_eq_false (by omega)
    obtain ⟨ad', ea', hx'⟩ := Kd.at_int HR'.out (kk : Int) h0z hltz'
    subst ea'
    have hrd' : rd l' (kk : Int) = l'[kk] := by unfold rd; simp [List.getD, hlt']
    rw [hrd', Int.toNat_natCast] at hx'
    rw [List.drop_eq_getElem_cons hlt', cmpL] at hf
    have hin := HI.out _ (List.getElem_mem hlt)
    have hin' := HI'.out _ (List.getElem_mem hlt')
    have hcall := fun W => impl_compareLiterals.calls l[kk] l'[kk] _ W (lit_cmp hin hin')
    generalize l[kk] = x at hx hf hcall
    generalize l'[kk] = y at hx' hf hcall
    generalize rk x - rk y = q at hf hcall
    clear hrd hrd' hin hin'
    by_cases hq : q = 0
    ·subst hq
     rw [if_pos rfl] at hf
     have HF2 := Aside0.mk hf
     clear hf HF
     go_wp2_with (go_at_call 115; refine (hcall _).mono ?_; rintro e w' ⟨rfl, ⟨nd, rfl⟩⟩)
     go_roundg (gk - 1)
     case measure => omega
     case rel => exact ⟨kk + 1, rfl, by omega, by omega, by omega, HF2, by repeat (first | exact Drawn0.refl _ | apply Drawn0.step)⟩
    ·rw [if_neg hq] at hf
     have hq2 : (q != 0) = true := bne_iff_ne.mpr hq
     have HF2 := Aside0.mk hf
     clear hf HF hq
     go_wp2_with (go_at_call 115; refine (hcall _).mono ?_; rintro e w' ⟨rfl, ⟨nd, rfl⟩⟩)
     go_ret
     rw [HF2.out]
     exact ⟨rfl, by repeat (first | exact Drawn0.refl _ | apply Drawn0.step)⟩
   ·have hge : decide (l'.length ≤ kk) = true := decide_eq_true (by omega)
    rw [List.drop_of_length_le (by omega : l'.length ≤ kk), cmpL] at hf
    have HF2 := Aside0.mk hf
    clear hf HF hlt' hrd
    go_wp2
    go_ret
    rw [HF2.out]
    exact ⟨rfl, by repeat (first | exact Drawn0.refl _ | apply Drawn0.step)⟩
  ·obtain rfl : kk = l.length := by omega
   have hf := HF.out
   rw [List.drop_length] at hf
   by_cases hl : l.length < l'.length
   ·have hlz : (l.length : Int) < (l'.length : Int) := by omega
    rw [List.drop_eq_getElem_cons hl, cmpL] at hf
    have HF2 := Aside0.mk hf
    clear hf HF
    go_wp2
    go_ret
    rw [HF2.out]
    exact ⟨rfl, by repeat (first | exact Drawn0.refl _ | apply Drawn0.step)⟩
   ·have hlz : ¬ (l.length : Int) < (l'.length : Int) := by omega
    rw [List.drop_of_length_le (by omega), cmpL] at hf
    have HF2 := Aside0.mk hf
    clear hf HF
    go_wp2
    go_ret
    rw [HF2.out]
    exact ⟨rfl, by repeat (first | exact Drawn0.refl _ | apply Drawn0.step)⟩
set_option maxHeartbeats 2000000 in
theorem compareClauses_calls (A : Option Addr) (c : Nat) (l : List Int) (A' : Option Addr) (c' : Nat) (l' : List Int) (w : World) (hr : Kd.C (Kd.int .i64) w A l.length l) (hr' : Kd.C (Kd.int .i64) w A' l'.length l') (hi : ∀ x ∈ l, inR x) (hi' : ∀ x ∈ l', inR x) :
  Calls Try.prog 92 #[.slice A l.length c, .slice A' l'.length c'] w fun e w' => e = .returned (.int .i64 (cmpL l l')) ∧ Drawn0 w w' := by
 have hcall := compareFunc_calls A c l A' c' l' w hr hr' hi hi'
 clear hr hr' hi hi'
 go_enter Try.func92, Try.ntmps92
 go_wp2_with (go_at_call 123; refine hcall.mono ?_; rintro e w' ⟨rfl, ⟨nd, rfl⟩⟩)
 go_ret
 exact ⟨rfl, by repeat (first | exact Drawn0.refl _ | apply Drawn0.step)⟩
structure Rec where
 v : Value
 l : List Int
 t : Nat
instance : Inhabited Rec := ⟨⟨.nilIface, [], 0⟩⟩
def RecOK (w : World) (base : Nat) (ok : Nat → Prop) (f : Nat → Nat) (r : Rec) : Prop := Kd.R (Kd.int .i64) 3 w base (fun k => ok k ∧ f k = r.t) r.v r.l
theorem recs_of {w : World} {base : Nat} {ok : Nat → Prop} {v : Value} {xs : List (List Int)} (h : Kd.S (Kd.slice 3 (Kd.int .i64)) 37 w base ok v xs) :
  ∃ (f : Nat → Nat) (rs : List Rec), (∀ k, v.ownBlock = some k → ok k) ∧ w.ownsRow base 37 1 v rs.length (rs.map (·.v)) ∧ rs.map (·.l) = xs ∧ (rs.map (·.t)).Nodup ∧ ∀ r ∈ rs, RecOK w base (fun k => ok k ∧ some k ≠ v.ownBlock) f r := by
 obtain ⟨f, h0, inner, ho, hl, hr⟩ := h
 rw [List.length_zipIdx] at ho hl
 have hil : inner.length = xs.length := by rw [hl]; exact Nat.mul_one _
 have key : ∀ j (hj : j < xs.length), ∃ u, inner[j]? = some u ∧ Kd.R (Kd.int .i64) 3 w base (fun k => (ok k ∧ some k ≠ v.ownBlock) ∧ f k = j) u xs[j] := by
  intro j hj
  obtain ⟨u, hu, hR⟩ := hr j (xs[j], j) (Kd.zip_at (List.getElem?_eq_getElem hj))
  have hd : (inner.drop (j * 1)).take 1 = [inner[j]'(by omega)] := by
   rw [Nat.mul_one, List.drop_eq_getElem_cons (by omega : j < inner.length)]
   rfl
  change (inner.drop (j * 1)).take 1 = [u] at hu
  rw [hd] at hu
  have hu2 : inner[j]'(by omega) = u := by simpa using hu
  exact ⟨u, by rw [List.getElem?_eq_getElem (by omega : j < inner.length), hu2], hR⟩
 refine ⟨f, (List.range xs.length).map fun j => ⟨inner.getD j .nilIface, xs.getD j [], j⟩, h0, ?_, ?_, ?_, ?_⟩
 ·rw [List.length_map, List.length_range, List.map_map]
  have : (List.range xs.length).map ((·.v) ∘ fun j => (⟨inner.getD j .nilIface, xs.getD j [], j⟩ : Rec)) = inner := by
   apply List.ext_getElem?
   intro i
   by_cases hi : i < xs.length
   ·obtain ⟨u, hu, _⟩ := key i hi
    simp [hi, hu]
   ·rw [List.getElem?_eq_none (by simp; omega), List.getElem?_eq_none (by omega)]
  rw [this]
  exact ho
 ·rw [List.map_map]
  apply List.ext_getElem?
  intro i
  by_cases hi : i < xs.length
  ·simp [hi]
  ·rw [List.getElem?_eq_none (by simp; omega), List.getElem?_eq_none (by omega)]
 ·rw [List.map_map]
  have : (List.range xs.length).map ((·.t) ∘ fun j => (⟨inner.getD j .nilIface, xs.getD j [], j⟩ : Rec)) = List.range xs.length := by
   conv => rhs; rw [← List.map_id (List.range xs.length)]
   rfl
  rw [this]
  exact List.nodup_range
 ·intro r hr2
  obtain ⟨j, hj, rfl⟩ := List.mem_map.1 hr2
  have hj2 := List.mem_range.1 hj
  obtain ⟨u, hu, hR⟩ := key j hj2
  unfold RecOK
  simp only
  rw [show inner.getD j .nilIface = u by rw [List.getD_eq_getElem?_getD, hu]; rfl, show xs.getD j [] = xs[j] by rw [List.getD_eq_getElem?_getD, List.getElem?_eq_getElem hj2]; rfl]
  exact hR
theorem of_recs {w : World} {base : Nat} {ok : Nat → Prop} {v : Value} {f : Nat → Nat} {rs : List Rec} (h0 : ∀ k, v.ownBlock = some k → ok k) (ho : w.ownsRow base 37 1 v rs.length (rs.map (·.v))) (hn : (rs.map (·.t)).Nodup)
  (hr : ∀ r ∈ rs, RecOK w base (fun k => ok k ∧ some k ≠ v.ownBlock) f r) : Kd.S (Kd.slice 3 (Kd.int .i64)) 37 w base ok v (rs.map (·.l)) := by
 refine ⟨fun k => (rs.map (·.t)).idxOf (f k), h0, rs.map (·.v), ?_, ?_, ?_⟩
 ·rw [List.length_zipIdx, List.length_map]
  exact ho
 ·rw [List.length_zipIdx, List.length_map, List.length_map]
  exact (Nat.mul_one _).symm
 ·rintro j ⟨p, i⟩ hj
  rw [List.getElem?_zipIdx, Nat.zero_add] at hj
  obtain ⟨p2, hp2, e⟩ := Option.map_eq_some_iff.1 hj
  cases e
  rw [List.getElem?_map] at hp2
  obtain ⟨r, hr1, rfl⟩ := Option.map_eq_some_iff.1 hp2
  have hjl : j < rs.length := (List.getElem?_eq_some_iff.1 hr1).1
  have hrj : rs[j] = r := (List.getElem?_eq_some_iff.1 hr1).2
  refine ⟨r.v, ?_, ?_⟩
  ·show ((rs.map (·.v)).drop (j * 1)).take 1 = [r.v]
   rw [Nat.mul_one, List.drop_eq_getElem_cons (by simpa using hjl)]
   simp [hrj]
  ·refine Kd.R_mono (hr r (List.mem_of_getElem? hr1)) (fun k hk => ⟨hk.1, ?_⟩)
   have ht : (rs.map (·.t))[j]'(by simpa using hjl) = r.t := by simp [hrj]
   show (rs.map (·.t)).idxOf (f k) = j
   rw [hk.2, ← ht]
   exact List.Nodup.idxOf_getElem hn j (by simpa using hjl)
theorem recOK_reads {w : World} {base : Nat} {ok : Nat → Prop} {f : Nat → Nat} {r : Rec} (h : RecOK w base ok f r) : ∃ A c, r.v = .slice A r.l.length c ∧ r.l.length ≤ c ∧ Kd.C (Kd.int .i64) w A r.l.length r.l := Kd.R_reads h
theorem recOK_step {w w1 : World} {base : Nat} {ok : Nat → Prop} {f : Nat → Nat} {r : Rec} (h : RecOK w base ok f r) (hm : ∀ k, ok k → k < w.heap.size → w1.heap[k]? = w.heap[k]?) : RecOK w1 base ok f r := Kd.R_step h (fun k hk hl => hm k hk.1 hl)
theorem cmpL_self : ∀ a : List Int, cmpL a a = 0
 | [] => rfl
 | x :: r => by rw [cmpL, if_pos (by omega)]; exact cmpL_self r
theorem cmpL_zero : ∀ {a b : List Int}, cmpL a b = 0 → a = b
 | [], [], _ => rfl
 | [], _ :: _, h => by simp [cmpL] at h
 | _ :: _, [], h => by simp [cmpL] at h
 | x :: r, y :: s, h => by
  rw [cmpL] at h
  split at h
  ·rename_i he
   rw [rk_inj (show rk x = rk y by omega), cmpL_zero h]
  ·omega
theorem cmpL_neg : ∀ a b : List Int, cmpL a b < 0 ↔ 0 < cmpL b a
 | [], [] => by simp [cmpL]
 | [], _ :: _ => by simp [cmpL]
 | _ :: _, [] => by simp [cmpL]
 | x :: r, y :: s => by
  rw [cmpL, cmpL]
  by_cases h : rk x - rk y = 0
  ·rw [if_pos h, if_pos (by omega)]; exact cmpL_neg r s
  ·rw [if_neg h, if_neg (by omega)]; omega
theorem cmpL_trans : ∀ {a b c : List Int}, cmpL a b < 0 → cmpL b c < 0 → cmpL a c < 0
 | [], [], _, h, _ => by simp [cmpL] at h
 | _ :: _, [], _, h, _ => by simp [cmpL] at h
 | [], _ :: _, [], _, h => by simp [cmpL] at h
 | [], _ :: _, _ :: _, _, _ => by simp [cmpL]
 | _ :: _, _ :: _, [], _, h => by simp [cmpL] at h
 | x :: r, y :: s, z :: t, h1, h2 => by
  rw [cmpL] at h1 h2 ⊢
  by_cases e1 : rk x - rk y = 0
  ·rw [if_pos e1] at h1
   by_cases e2 : rk y - rk z = 0
   ·rw [if_pos e2] at h2
    rw [if_pos (by omega)]
    exact cmpL_trans h1 h2
   ·rw [if_neg e2] at h2
    rw [if_neg (by omega)]
    omega
  ·rw [if_neg e1] at h1
   by_cases e2 : rk y - rk z = 0
   ·rw [if_neg (by omega)]; omega
   ·rw [if_neg e2] at h2
    rw [if_neg (by omega)]; omega
theorem cmpL_ntrans {a b c : List Int} (h1 : ¬ cmpL a b < 0) (h2 : ¬ cmpL b c < 0) : ¬ cmpL a c < 0 := by
 intro h
 by_cases e1 : cmpL a b = 0
 ·rw [cmpL_zero e1] at h
  exact h2 h
 ·have h3 : cmpL b a < 0 := (cmpL_neg b a).2 (by omega)
  exact h2 (cmpL_trans h3 h)
theorem sort_heap {α : Type} [Inhabited α] (enc : α → Value) (w : World) (blk m : Nat) (dk : Array α) (os : Array Obj) {k : Nat} (hk : k < w.heap.size) (hne : k ≠ blk) : (Go.Proofs.sortWorld enc w blk 0 m dk os).heap[k]? = w.heap[k]? := by
 unfold Go.Proofs.sortWorld Go.Sort.grow Go.Sort.putRow Go.Sort.mapBlock Go.Sort.ahead
 simp only
 rw [Array.getElem?_append_left (by simpa using hk), Array.getElem?_modify, if_neg (Ne.symm hne)]
theorem sort_heap_own {α : Type} [Inhabited α] (enc : α → Value) (w : World) (blk m : Nat) (dk : Array α) (os : Array Obj) {cur : Array Value} {t : TypeId} {fz : Nat × Nat} (hk : w.heap[blk]? = some (.cells cur t fz)) : (Go.Proofs.sortWorld enc w blk 0 m dk os).heap[blk]? = some (.cells (Go.Sort.putCells enc 0 dk cur) t fz) := by
 have hlt : blk < w.heap.size := (Array.getElem?_eq_some_iff.1 hk).1
 unfold Go.Proofs.sortWorld Go.Sort.grow Go.Sort.putRow Go.Sort.mapBlock Go.Sort.ahead
 simp only
 rw [Array.getElem?_append_left (by simpa using hlt), Array.getElem?_modify, if_pos rfl, hk]
 rfl
theorem putCells_take {α : Type} [Inhabited α] (enc : α → Value) (dk : Array α) (cur : Array Value) (h : dk.size ≤ cur.size) : (Go.Sort.putCells enc 0 dk cur).toList.take dk.size = dk.toList.map enc := by
 apply List.ext_getElem?
 intro i
 by_cases hi : i < dk.size
 ·have h2 : i < cur.size := by omega
  rw [List.getElem?_take_of_lt hi]
  simp [Go.Sort.putCells, hi, h2]
 ·rw [List.getElem?_eq_none (by simp; omega), List.getElem?_eq_none (by simp; omega)]
theorem own_cells {w : World} {base : Nat} {v : Value} {n : Nat} {xs : List Value} (h : w.ownsRow base 37 1 v n xs) (h0 : 0 < n) : ∃ g cap cur, v = .slice (some ⟨g, 0, none⟩) n cap ∧ base ≤ g ∧ w.heap[g]? = some (.cells cur 37 (0, 0)) ∧ n ≤ cap ∧ cap ≤ maxLen ∧ cur.size = cap ∧ cur.toList.take n = xs := by
 rcases h.2 with ⟨_, h1⟩ | ⟨g, cap, cur, hv, hg, hk, h1, h2, h3, h4⟩
 ·omega
 ·exact ⟨g, cap, cur, hv, hg, hk, h1, h2, by omega, by rw [← h4, Nat.mul_one]⟩
set_option maxHeartbeats 2000000 in
theorem sortRows {w : World} {base : Nat} {ok : Nat → Prop} {v : Value} {xs : List (List Int)} (h : Kd.S (Kd.slice 3 (Kd.int .i64)) 37 w base ok v xs) (hin : ∀ l ∈ xs, ∀ x ∈ l, inR x) (hn : xs.length ≤ 4096) (hbase : base ≤ w.heap.size) :
  Calls Try.prog 91 #[v, .func (.func 92) #[] #[]] w fun e w' => e = .returned (.tuple #[]) ∧ (∃ ys, Kd.S (Kd.slice 3 (Kd.int .i64)) 37 w' base ok v ys ∧ ys.Perm xs ∧ ys.Pairwise (fun a b => ¬ cmpL b a < 0)) ∧ Below base w w' ∧ (∀ k, k < w.heap.size → some k ≠ v.ownBlock → w'.heap[k]? = w.heap[k]?) := by
 obtain ⟨f, rs, h0, ho, hl, ht, hr⟩ := recs_of h
 have hlen : rs.length = xs.length := by rw [← hl, List.length_map]
 by_cases hp : rs.length = 0
 ·have hrs : rs = [] := List.eq_nil_of_length_eq_zero hp
  subst hrs
  have hxs : xs = [] := by rw [← hl]; rfl
  subst hxs
  obtain ⟨A, c, rfl⟩ := Kd.S_slice h
  have hs := AnyF.slices_SortFunc_none (P := Try.prog) (ρ := Try.sortR_ren) { Try.sortR with } A c (.func (.func 92) #[] #[]) w
  change Calls Try.prog 91 _ _ _ at hs
  refine hs.mono ?_
  rintro e w' ⟨rfl, rfl⟩
  exact ⟨rfl, ⟨[], h, List.Perm.refl _, List.Pairwise.nil⟩, Below.refl _ _, fun _ _ _ => rfl⟩
 ·have hp1 : 0 < rs.length := Nat.pos_of_ne_zero hp
  obtain ⟨blk, cap, cur, rfl, hbb, hk, hnc, hcm, hcs, htk⟩ := own_cells ho hp1
  have hblk : blk < w.heap.size := (Array.getElem?_eq_some_iff.1 hk).1
  let P : Rec → Prop := fun r => RecOK w base (fun k => ok k ∧ some k ≠ (Value.slice (some ⟨blk, 0, none⟩) rs.length cap).ownBlock) f r ∧ ∀ x ∈ r.l, inR x
  have hP : ∀ r ∈ rs, P r := fun r hr2 => ⟨hr r hr2, hin r.l (by rw [← hl]; exact List.mem_map_of_mem hr2)⟩
  have hP0 : P (rs[0]'hp1) := hP _ (List.getElem_mem hp1)
  haveI : Inhabited {r : Rec // P r} := ⟨⟨rs[0]'hp1, hP0⟩⟩
  let ds : List {r : Rec // P r} := rs.pmap (fun r hr2 => ⟨r, hr2⟩) hP
  have hds : ds.map (·.1) = rs := by
   show (rs.pmap _ hP).map _ = rs
   rw [List.map_pmap]
   exact List.pmap_eq_map (p := P) (f := id) hP ▸ List.map_id rs
  have hdl : ds.length = rs.length := by have hq := congrArg List.length hds; rwa [List.length_map] at hq
  let enc : {r : Rec // P r} → Value := fun x => x.1.v
  let cf : {r : Rec // P r} → {r : Rec // P r} → Int := fun x y => cmpL x.1.l y.1.l
  have hO : Go.Sort.SWO (ltOf cf) := {
   irrefl := fun x => decide_eq_false (by show ¬ cmpL x.1.l x.1.l < 0; rw [cmpL_self]; omega)
   trans := fun x y z h1 h2 => decide_eq_true (cmpL_trans (of_decide_eq_true h1) (of_decide_eq_true h2))
   ntrans := fun x y z h1 h2 => decide_eq_false (cmpL_ntrans (of_decide_eq_false h1) (of_decide_eq_false h2)) }
  have hone : OneCell enc := fun x => by
   obtain ⟨A, c, e, _⟩ := recOK_reads x.2.1
   show x.1.v.oneCell' = true
   rw [e]
   rfl
  have hcmp : CmpReads Try.prog 92 #[] enc cf blk 0 ds.toArray.size w := fun m os dk _ x y => by
   have st : ∀ z : {r : Rec // P r}, ∃ A c, z.1.v = .slice A z.1.l.length c ∧ z.1.l.length ≤ c ∧ Kd.C (Kd.int .i64) (Go.Proofs.sortWorld enc w blk 0 m dk os) A z.1.l.length z.1.l := fun z =>
    recOK_reads (recOK_step z.2.1 (fun k hk2 hlt => sort_heap enc w blk m dk os hlt (fun e => hk2.2 (by rw [e]; rfl))))
   obtain ⟨A, c, e1, _, hC⟩ := st x
   obtain ⟨A', c', e2, _, hC'⟩ := st y
   have := compareClauses_calls A c x.1.l A' c' y.1.l (Go.Proofs.sortWorld enc w blk 0 m dk os) hC hC' x.2.2 y.2.2
   show Calls Try.prog 92 #[x.1.v, y.1.v] _ _
   rw [e1, e2]
   exact this.mono (fun e w' hq => ⟨hq.1, hq.2.out⟩)
  have hH : Go.Sort.Holds enc w blk 0 ds.toArray := by
   intro j hj
   have hj2 : j < ds.length := by simpa using hj
   have hj3 : j < rs.length := by omega
   have e1 : (rs.map (·.v))[j]? = some rs[j].v := by rw [List.getElem?_map, List.getElem?_eq_getElem hj3]; rfl
   have e2 : enc (ds.toArray[j]!) = rs[j].v := by
    have : (ds.map (·.1))[j]? = some rs[j] := by rw [hds, List.getElem?_eq_getElem hj3]
    rw [List.getElem?_map, List.getElem?_eq_getElem hj2] at this
    have h3 : ds[j].1 = rs[j] := by simpa using this
    show (ds.toArray[j]!).1.v = _
    rw [getElem!_pos ds.toArray j (by simpa using hj2), List.getElem_toArray, h3]
   rw [e2, Nat.zero_add]
   refine ⟨?_, by simp [World.frozen?, hk]⟩
   rw [← htk, List.getElem?_take_of_lt hj3] at e1
   simp only [World.cell?, hk]
   simpa using e1
  have hS := Any.slices_SortFunc Try.sortR enc hone cf hO 92 #[] blk 0 cap ds.toArray w (enters_of Try.func92 (by kernel_rfl) rfl) hcmp.lays hH hblk (by simp only [List.size_toArray]; omega)
  have hsz : ds.toArray.size = rs.length := by simp [hdl]
  rw [hsz] at hS
  change Calls Try.prog 91 _ _ _ at hS
  refine hS.mono ?_
  rintro e w' ⟨rfl, d', n, os, hperm, hsort, rfl⟩
  obtain ⟨hz1, _, hz3⟩ := hperm
  have hd's : d'.size = rs.length := by rw [hz1, hsz]
  have hpm : d'.toList.Perm ds := by
   have e1 : (d'.extract 0 rs.length).toList = d'.toList := by rw [← hd's]; simp
   have e2 : (ds.toArray.extract 0 rs.length).toList = ds := by rw [← hdl]; simp
   rw [e1, e2] at hz3
   exact hz3
  have hrp : (d'.toList.map (·.1)).Perm rs := by rw [← hds]; exact hpm.map _
  have hk' := sort_heap_own enc w blk n d' os hk
  have hval : d'.toList.map enc = (d'.toList.map (·.1)).map (·.v) := by rw [List.map_map]; rfl
  have hl' : (d'.toList.map (·.1)).length = rs.length := by rw [List.length_map, Array.length_toList, hd's]
  refine ⟨rfl, ⟨(d'.toList.map (·.1)).map (·.l), of_recs (f := f) h0 ?_ ?_ ?_, ?_, ?_⟩, ?_, ?_⟩
  ·rw [hl']
   refine ⟨by rw [List.length_map, hl', Nat.mul_one], .inr ⟨blk, cap, _, rfl, hbb, hk', hnc, hcm, by rw [Go.Sort.putCells, Array.size_mapIdx, hcs, Nat.mul_one], ?_⟩⟩
   rw [Nat.mul_one, ← hval, ← hd's]
   exact putCells_take enc d' cur (by omega)
  ·exact (hrp.map (·.t)).nodup_iff.2 ht
  ·intro r hr2
   have hrm := hrp.mem_iff.1 hr2
   exact recOK_step (hr r hrm) (fun k hk2 hlt => sort_heap enc w blk n d' os hlt (fun e => hk2.2 (by rw [e]; rfl)))
  ·rw [← hl]
   exact hrp.map _
  ·rw [List.map_map, List.pairwise_map, List.pairwise_iff_getElem]
   intro i j hi hj hij
   have hi2 : i < d'.size := by simpa using hi
   have hj2 : j < d'.size := by simpa using hj
   have := hsort i j (Nat.zero_le _) hij (by rw [← hd's]; exact hj2)
   rw [getElem!_pos d' j hj2, getElem!_pos d' i hi2] at this
   have h3 := of_decide_eq_false this
   simpa using h3
  ·refine ⟨rfl, rfl, rfl, ?_, fun k hk2 => sort_heap enc w blk n d' os (by omega) (by omega)⟩
   unfold Go.Proofs.sortWorld Go.Sort.grow Go.Sort.putRow Go.Sort.mapBlock Go.Sort.ahead
   simp
  ·intro k hk2 hne
   exact sort_heap enc w blk n d' os hk2 (fun e => hne (by rw [e]; rfl))
def slices_Equal_int_int.l0 : Nat → List Int → List Int → Int → Int → Option (Bool)
 | 0, _, _, _, _ => none
 | k + 1, x0, x1, x12, x13 => if x13 < x12 then (if 0 ≤ x13 then (if x13 < (x0.length : Int) then (if x13 < (x1.length : Int) then (if (rd x0 x13) = (rd x1 x13) then (slices_Equal_int_int.l0 k x0 x1 x12 (wrap64 (x13 + 1))) else (some false)) else (none)) else (none)) else (none)) else (some true)
def slices_Equal_int_int.f (k : Nat) (l0 : List Int) (l1 : List Int) : Option (Bool) := if (l0.length : Int) = (l1.length : Int) then (slices_Equal_int_int.l0 k l0 l1 (l0.length : Int) 0) else (some false)
set_option maxHeartbeats 8000000 in
set_option maxRecDepth 100000 in
theorem slices_Equal_int_int.calls (k : Nat) (A0 : Option Addr) (c0 : Nat) (l0 : List Int) (A1 : Option Addr) (c1 : Nat) (l1 : List Int) (r : Bool) (w : World) (hr0 : Kd.C (Kd.int .i64) w A0 l0.length l0) (hc0 : l0.length ≤ c0) (hr1 : Kd.C (Kd.int .i64) w A1 l1.length l1) (hc1 : l1.length ≤ c1) (h : slices_Equal_int_int.f k l0 l1 = some r) :
  Calls Try.prog 94 #[.slice A0 l0.length c0, .slice A1 l1.length c1] w fun e w' => e = .returned (.bool r) ∧ Drawn0 w w' := by
 have HR0 := Aside0.mk hr0
 have HC0 := Aside0.mk hc0
 clear hr0 hc0
 have HR1 := Aside0.mk hr1
 have HC1 := Aside0.mk hc1
 clear hr1 hc1
 have H : (if (l0.length : Int) = (l1.length : Int) then (slices_Equal_int_int.l0 k l0 l1 (l0.length : Int) 0) else (some false)) = some r := h
 clear h
 by_cases c3 : (l0.length : Int) = (l1.length : Int)
 ·rw [if_pos c3] at H
  have c3b0 : ((l0.length : Int) == (l1.length : Int)) = true := beq_iff_eq.mpr c3
  have c3b1 : ((l0.length : Int) != (l1.length : Int)) = false := bne_eq_false_iff_eq.mpr c3
  have c3b2 : (l0.length == l1.length) = true := by first | simpa using c3 | (simp at c3 ⊢; omega)
  clear c3
  have H' := Aside0.mk H
  clear H
  go_enter Try.func94, Try.ntmps94
  go_wp2
  repeat (go_quiet (fail); try go_wp2)
  go_loopg [13] k (fun kq v13 w' => ∃ (x13_1 : Int), v13 = .int .i64 x13_1 ∧ Aside0 (slices_Equal_int_int.l0 kq l0 l1 (l0.length : Int) x13_1 = some r) ∧ Aside0 (kq ≤ k) ∧ Drawn0 w w')
  case atStart => exact ⟨(0), (by first | rfl | (simp; done) | (simp [*]; done)), H', ⟨Nat.le_refl _⟩, by repeat (first | exact Drawn0.refl _ | apply Drawn0.step)⟩
  case round =>
   clear H'
   try clear c1
   try clear p2
   try clear c3
   try clear c3b0
   try clear c3b1
   try clear c3b2
   obtain ⟨x13_1, rfl, HA, HK1, ⟨m1, rfl⟩⟩ := hrel
   cases gk with
   | zero => exact absurd HA.out (by simp [slices_Equal_int_int.l0])
   | succ k1 =>
    have H := HA.out
    clear HA
    simp only [slices_Equal_int_int.l0] at H
    by_cases c4 : x13_1 < (l0.length : Int)
    ·rw [if_pos c4] at H
     have c4b0 : decide (x13_1 < (l0.length : Int)) = true := decide_eq_true c4
     clear c4
     by_cases c5 : 0 ≤ x13_1
     ·rw [if_pos c5] at H
      have c5b0 : decide (0 ≤ x13_1) = true := decide_eq_true c5
      clear c5
      by_cases c6 : x13_1 < (l0.length : Int)
      ·rw [if_pos c6] at H
       have c6b0 : decide (x13_1 < (l0.length : Int)) = true := decide_eq_true c6
       clear c6
       by_cases c7 : x13_1 < (l1.length : Int)
       ·rw [if_pos c7] at H
        have c7b0 : decide (x13_1 < (l1.length : Int)) = true := decide_eq_true c7
        clear c7
        by_cases c8 : (rd l0 x13_1) = (rd l1 x13_1)
        ·rw [if_pos c8] at H
         have c8b0 : ((rd l0 x13_1) == (rd l1 x13_1)) = true := beq_iff_eq.mpr c8
         have c8b1 : ((rd l0 x13_1) != (rd l1 x13_1)) = false := bne_eq_false_iff_eq.mpr c8
         clear c8
         have H' := Aside0.mk H
         clear H
         have p136 : 0 ≤ (x13_1 : Int) := of_decide_eq_true (by first | (with_reducible assumption) | assumption)
         have q136 : x13_1 < (l0.length : Int) := of_decide_eq_true (by first | (with_reducible assumption) | assumption)
         obtain ⟨ad136, e136, hx136_0⟩ := Kd.at_int HR0.out x13_1 p136 q136
         cases e136
         replace p136 := eq_true p136
         replace q136 := eq_true q136
         have p137 : 0 ≤ (x13_1 : Int) := of_decide_eq_true (by first | (with_reducible assumption) | assumption)
         have q137 : x13_1 < (l1.length : Int) := of_decide_eq_true (by first | (with_reducible assumption) | assumption)
         obtain ⟨ad137, e137, hx137_0⟩ := Kd.at_int HR1.out x13_1 p137 q137
         cases e137
         replace p137 := eq_true p137
         replace q137 := eq_true q137
         go_wp2
         repeat (go_quiet (fail); try go_wp2)
         go_roundg k1
         case measure => have := HK1.out; omega
         case rel => exact ⟨(wrap64 (x13_1 + 1)), (by first | rfl | (simp; done) | (simp [*]; done)), H', ⟨by have := HK1.out; omega⟩, by repeat (first | exact Drawn0.refl _ | apply Drawn0.step)⟩
        ·rw [if_neg c8] at H
         have c8b0 : ((rd l0 x13_1) == (rd l1 x13_1)) = false := beq_eq_false_iff_ne.mpr c8
         have c8b1 : ((rd l0 x13_1) != (rd l1 x13_1)) = true := bne_iff_ne.mpr c8
         obtain rfl := Option.some.inj H
         have p136 : 0 ≤ (x13_1 : Int) := of_decide_eq_true (by first | (with_reducible assumption) | assumption)
         have q136 : x13_1 < (l0.length : Int) := of_decide_eq_true (by first | (with_reducible assumption) | assumption)
         obtain ⟨ad136, e136, hx136_0⟩ := Kd.at_int HR0.out x13_1 p136 q136
         cases e136
         replace p136 := eq_true p136
         replace q136 := eq_true q136
         have p137 : 0 ≤ (x13_1 : Int) := of_decide_eq_true (by first | (with_reducible assumption) | assumption)
         have q137 : x13_1 < (l1.length : Int) := of_decide_eq_true (by first | (with_reducible assumption) | assumption)
         obtain ⟨ad137, e137, hx137_0⟩ := Kd.at_int HR1.out x13_1 p137 q137
         cases e137
         replace p137 := eq_true p137
         replace q137 := eq_true q137
         go_wp2
         repeat (go_quiet (fail); try go_wp2)
         go_ret
         exact ⟨by first | rfl | (simp; done) | (simp [*]; done), by repeat (first | exact Drawn0.refl _ | apply Drawn0.step)⟩
       ·rw [if_neg c7] at H
        exact absurd H (by simp)
      ·rw [if_neg c6] at H
       exact absurd H (by simp)
     ·rw [if_neg c5] at H
      exact absurd H (by simp)
    ·rw [if_neg c4] at H
     have c4b0 : decide (x13_1 < (l0.length : Int)) = false := decide_eq_false c4
     clear c4
     obtain rfl := Option.some.inj H
     go_wp2
     repeat (go_quiet (fail); try go_wp2)
     go_ret
     exact ⟨by first | rfl | (simp; done) | (simp [*]; done), by repeat (first | exact Drawn0.refl _ | apply Drawn0.step)⟩
 ·rw [if_neg c3] at H
  have c3b0 : ((l0.length : Int) == (l1.length : Int)) = false := beq_eq_false_iff_ne.mpr c3
  have c3b1 : ((l0.length : Int) != (l1.length : Int)) = true := bne_iff_ne.mpr c3
  have c3b2 : (l0.length == l1.length) = false := by first | simpa using c3 | (simp at c3 ⊢; omega)
  obtain rfl := Option.some.inj H
  go_enter Try.func94, Try.ntmps94
  go_wp2
  repeat (go_quiet (fail); try go_wp2)
  go_ret
  exact ⟨by first | rfl | (simp; done) | (simp [*]; done), by repeat (first | exact Drawn0.refl _ | apply Drawn0.step)⟩
end Go.Proofs.Ytelfahcjeldliaa.PFnExactNormalCnf
end
section
namespace Go.Proofs.Ytelfahcjeldliaa.PFnExactNormalCnf
open Go.RowKit Go.Proofs.YtelfahcjeldliaaW.PrintWords Go.Proofs.YtelfahcjeldliaaW.PrintLast Go.Proofs.YtelfahcjeldliaaW.PrintMore
attribute [local go_sem] max2_int min2_int max_two min_two max_three min_three max_four min_four   -- for this text's walks alone
set_option linter.unusedVariables false
set_option linter.unusedSimpArgs false
theorem lt_of_heap {w : World} {k : Nat} {o : Obj} (h : w.heap[k]? = some o) : k < w.heap.size := by
 rcases Nat.lt_or_ge k w.heap.size with q | q
 ·exact q
 ·rw [Array.getElem?_eq_none q] at h; cases h
def Cells (w0 : World) (xs : List Value) (ls : List (List Int)) : Prop :=
 xs.length = ls.length ∧ ∀ (i : Nat) (l : List Int), ls[i]? = some l → ∃ A c, xs[i]? = some (.slice A l.length c) ∧ l.length ≤ c ∧ Kd.C (Kd.int .i64) w0 A l.length l
section
variable {w0 w w1 : World} {xs ys : List Value} {ls ms : List (List Int)} {base : Nat} {v : Value}
def Rws (w0 w : World) (base : Nat) (v : Value) (ls : List (List Int)) : Prop := ∃ xs, w.ownsRow base 37 1 v ls.length xs ∧ Cells w0 xs ls
theorem owns_below {e : TypeId} {n : Nat} (h : w.ownsRow base e 1 v n xs) (hb : Below w.heap.size w w1) : w1.ownsRow base e 1 v n xs := by
 refine ⟨h.1, ?_⟩
 rcases h.2 with h1 | ⟨g, cap, cur, hv, hg, hk, r⟩
 ·exact .inl h1
 ·have hlt : g < w.heap.size := by
   rcases Nat.lt_or_ge g w.heap.size with q | q
   ·exact q
   ·rw [Array.getElem?_eq_none q] at hk; cases hk
  exact .inr ⟨g, cap, cur, hv, hg, by rw [hb.block g hlt]; exact hk, r⟩
theorem Rws.reads (h : Rws w0 w base v ls) (hb : Below w0.heap.size w0 w) : ∃ A c, v = .slice A ls.length c ∧ ls.length ≤ c ∧ Kd.C (Kd.slice 3 (Kd.int .i64)) w A ls.length ls := by
 obtain ⟨xs, hown, hcs⟩ := h
 have hcell := fun g hv => hown.cells (g := g) hv
 rcases hown.2 with ⟨rfl, h0⟩ | ⟨g, cap, cur, rfl, hg, hk, hnc, hcm, hsz, ht⟩
 ·have : ls = [] := List.eq_nil_of_length_eq_zero h0
  subst this
  exact ⟨none, 0, rfl, Nat.le_refl _, Kd.C_nil _ _⟩
 ·refine ⟨some ⟨g, 0, none⟩, cap, rfl, hnc, rfl, by simp only [maxLen] at hcm; omega, fun _ => ⟨⟨g, 0, none⟩, rfl, fun j p hj => ?_⟩⟩
  obtain ⟨A, c, e, hc, hC⟩ := hcs.2 j p hj
  refine ⟨[.slice A p.length c], rfl, ⟨A, c, rfl, hc, Kd.C_below hC hb⟩, fun i u hu => ?_⟩
  cases i with
  | zero =>
   obtain rfl : (.slice A p.length c : Value) = u := by simpa using hu
   have := hcell g rfl j _ e
   simpa [Kd.slice] using this
  | succ i => simp at hu
end
section
variable {ops : Array Oper} {rest : List Oper} {o : Oper} {a : Act} {Q : Exit → Act → World → Prop}
end
section
variable {P : Program} {ops : Array Oper} {Q : Exit → Act → World → Prop}
structure VP where
 p : (Nat → Prop) → World → Value → Prop
 move : ∀ B B' W W' v, Below W.heap.size W W' → (∀ k, B k → B' k) → (∀ k, B' k → B k ∨ W.heap.size ≤ k) → p B W v → p B' W' v
def VP.eq (u : Value) : VP := ⟨fun _ _ v => v = u, fun _ _ _ _ _ _ _ _ h => h⟩
def VP.any : VP := ⟨fun _ _ _ => True, fun _ _ _ _ _ _ _ _ h => h⟩
def fillA (vals : Nat → Value) : List (Option Tmp) → Act → Act
 | [], a => a
 | none :: r, a => fillA vals r a
 | some N :: r, a => fillA vals r (a.put (some N) (vals N))
theorem put_same {a : Act} {N : Tmp} {v : Value} (h : N < a.tmps.size) : (a.put (some N) v).eval (.tmp N) = v := by
 simp [Act.put, Act.eval, h]
theorem put_other {a : Act} {N M : Tmp} {v : Value} (h : M ≠ N) : (a.put (some N) v).eval (.tmp M) = a.eval (.tmp M) := by
 simp [Act.put, Act.eval, Array.getD_eq_getD_getElem?, Array.getElem?_setIfInBounds, Ne.symm h]
theorem put_size {a : Act} {N : Option Tmp} {v : Value} : (a.put N v).tmps.size = a.tmps.size := by
 cases N <;> simp [Act.put]
theorem put_defers {a : Act} {N : Option Tmp} {v : Value} : (a.put N v).defers = a.defers := by
 cases N <;> rfl
theorem fillA_size {vals : Nat → Value} : ∀ (ds : List (Option Tmp)) (a : Act), (fillA vals ds a).tmps.size = a.tmps.size
 | [], a => rfl
 | none :: r, a => fillA_size r a
 | some N :: r, a => (fillA_size r _).trans put_size
theorem fillA_defers {vals : Nat → Value} : ∀ (ds : List (Option Tmp)) (a : Act), (fillA vals ds a).defers = a.defers
 | [], a => rfl
 | none :: r, a => fillA_defers r a
 | some N :: r, a => (fillA_defers r _).trans put_defers
theorem fillA_other {vals : Nat → Value} {t : Tmp} : ∀ (ds : List (Option Tmp)) (a : Act), some t ∉ ds → (fillA vals ds a).eval (.tmp t) = a.eval (.tmp t)
 | [], a, _ => rfl
 | none :: r, a, h => fillA_other r a (fun q => h (List.mem_cons_of_mem _ q))
 | some N :: r, a, h => (fillA_other r _ (fun q => h (List.mem_cons_of_mem _ q))).trans (put_other (fun q => h (by rw [q]; exact List.mem_cons_self)))
theorem fillA_at {vals : Nat → Value} {t : Tmp} : ∀ (ds : List (Option Tmp)) (a : Act), some t ∈ ds → t < a.tmps.size → (fillA vals ds a).eval (.tmp t) = vals t
 | [], a, h, _ => by cases h
 | none :: r, a, h, hs => fillA_at r a (by rcases List.mem_cons.1 h with h | h; cases h; exact h) hs
 | some N :: r, a, h, hs => by
  by_cases hr : some t ∈ r
  ·exact fillA_at r _ hr (by rw [put_size]; exact hs)
  ·have : t = N := by
    rcases List.mem_cons.1 h with h | h
    ·exact Option.some.inj h
    ·exact absurd h hr
   subst this
   exact (fillA_other r _ hr).trans (put_same hs)
theorem fillA_i {vals : Nat → Value} {t n : Nat} {ds : List (Option Tmp)} {a : Act} (h : ds.contains (some t) = true) (hn : a.tmps.size = n) (ht : Nat.blt t n = true) : (fillA vals ds a).eval (.tmp t) = vals t := fillA_at ds a (List.contains_iff_mem.1 h) (by rw [hn]; exact Nat.blt_eq ▸ ht)
theorem act_ext {a b : Act} (h1 : a.tmps.size = b.tmps.size) (h2 : a.defers = b.defers) (h3 : ∀ t, t < a.tmps.size → a.eval (.tmp t) = b.eval (.tmp t)) : a = b := by
 obtain ⟨x, d⟩ := a
 obtain ⟨y, e⟩ := b
 simp only at h1 h2
 subst h2
 congr 1
 refine Array.ext h1 (fun i hi hj => ?_)
 have := h3 i hi
 simpa [Act.eval, Array.getD_eq_getD_getElem?, hi, hj] using this
def okL (L : List (Option Tmp)) (n m : Nat) (T : Bool × List (List Nat × List Nat)) (Bt : List Nat) : Bool :=
 decide (m < L.length) && (L.take m).all (fun N => match N with | some t => decide (t < n) | none => false) && decide (L.take m).Nodup && (waitsOk T.2 Bt && (List.range L.length).all (fun d => decide (d < m) || (List.range d).all (fun i => (Bt.getD d 0).testBit i))) && (List.range L.length).all (fun i => ((T.2.getD i ([], [])).1).all (fun j => decide (j < i)))
def Each (C : Nat → Oper → Prop) : Nat → Nat → List Oper → Prop
 | 0, _, _ => True
 | _, _, [] => True
 | f + 1, k, o :: r => C k o ∧ Each C f (k + 1) r
theorem Each.at {C : Nat → Oper → Prop} : ∀ (f k : Nat) (l : List Oper), Each C f k l → ∀ (i : Nat) (o : Oper), i < f → l[i]? = some o → C (k + i) o
 | 0, k, l, _, i, o, hi, _ => absurd hi (Nat.not_lt_zero _)
 | f + 1, k, [], _, i, o, _, h => by simp at h
 | f + 1, k, x :: r, h, 0, o, _, ho => by
  obtain rfl : x = o := by simpa using ho
  exact h.1
 | f + 1, k, x :: r, h, i + 1, o, hi, ho => by
  have := Each.at f (k + 1) r h.2 i o (by omega) (by simpa using ho)
  rwa [show k + 1 + i = k + (i + 1) by omega] at this
def StepOk (P : Program) (ops : Array Oper) (Q : Exit → Act → World → Prop) (a0 : Act) (w0 : World) (L : List (Option Tmp)) (T : Bool × List (List Nat × List Nat)) (V : List VP) (m : Nat) (i : Nat) (o : Oper) : Prop :=
 ∀ (b : Act) (W : World) (B : Nat → Prop), Below w0.heap.size w0 W → (∀ k, B k → w0.heap.size ≤ k ∧ k < W.heap.size) → (∀ (t : Nat) (_ : (L.take m).contains (some t) = false := by kernel_rfl), b.eval (.tmp t) = a0.eval (.tmp t)) →
  (∀ (j t : Nat) (_ : ((T.2.getD i ([], [])).1).contains j = true := by kernel_rfl) (_ : L[j]? = some (some t) := by rfl), (V.getD j VP.any).p B W (b.eval (.tmp t))) →
  ∀ K : Act → World → Prop, (∀ v W', (V.getD i VP.any).p B W' v → Below W.heap.size W W' → K (b.put o.dst v) W') → (∀ v W', (V.getD i VP.any).p (fun k => B k ∨ k = W.heap.size) W' v → Below W.heap.size W W' → W.heap.size < W'.heap.size → K (b.put o.dst v) W') → (∀ v W', (V.getD i VP.any).p B W' v → Below w0.heap.size W W' → (∀ (j t : Nat), j < m → j ≠ i → ((T.2.getD j ([], [])).1).contains i = false → L[j]? = some (some t) → (V.getD j VP.any).p B W (b.eval (.tmp t)) → (V.getD j VP.any).p B W' (b.eval (.tmp t))) → K (b.put o.dst v) W') → if Region.wanted o (yielded ops b.tmps) = true then Oper.wp P o b W K Q else K (b.put o.dst undef) W
structure AInv (a0 : Act) (w0 : World) (L : List (Option Tmp)) (m : Nat) (V : List VP) (l : Nat → Bool) (B : Nat → Prop) (a : Act) (w : World) : Prop where
 size : a.tmps.size = a0.tmps.size
 defers : a.defers = a0.defers
 below : Below w0.heap.size w0 w
 boxes : ∀ k, B k → w0.heap.size ≤ k ∧ k < w.heap.size
 other : ∀ t, (∀ i, i < m → L[i]? = some (some t) → l i = false) → a.eval (.tmp t) = a0.eval (.tmp t)
 vals : ∀ i t, i < m → L[i]? = some (some t) → l i = true → (V.getD i VP.any).p B w (a.eval (.tmp t))
theorem nodup_get {L : List (Option Tmp)} (h : L.Nodup) {i j : Nat} {x : Option Tmp} (hi : L[i]? = some x) (hj : L[j]? = some x) : i = j := by
 have hi' := (List.getElem?_eq_some_iff.1 hi)
 have hj' := (List.getElem?_eq_some_iff.1 hj)
 obtain ⟨a1, e1⟩ := hi'
 obtain ⟨b1, e2⟩ := hj'
 rw [List.nodup_iff_pairwise_ne, List.pairwise_iff_getElem] at h
 rcases Nat.lt_trichotomy i j with q | q | q
 ·exact absurd (e1.trans e2.symm) (h i j a1 b1 q)
 ·exact q
 ·exact absurd (e2.trans e1.symm) (h j i b1 a1 q)
theorem countP_lt {p q : Nat → Bool} : ∀ (L : List Nat), (∀ x ∈ L, q x = true → p x = true) → (∃ x ∈ L, p x = true ∧ q x = false) → L.countP q < L.countP p
 | [], _, h => by obtain ⟨x, hx, _⟩ := h; cases hx
 | y :: r, h1, h2 => by
  have hle : ∀ (M : List Nat), (∀ x ∈ M, q x = true → p x = true) → M.countP q ≤ M.countP p := fun M hM => List.countP_mono_left hM
  rw [List.countP_cons, List.countP_cons]
  obtain ⟨x, hx, hp, hq⟩ := h2
  rcases List.mem_cons.1 hx with rfl | hx
  ·rw [hp, hq]
   have := hle r (fun x hx => h1 x (List.mem_cons_of_mem _ hx))
   simp
   omega
  ·have := countP_lt r (fun x hx => h1 x (List.mem_cons_of_mem _ hx)) ⟨x, hx, hp, hq⟩
   have h3 : (if q y = true then 1 else 0) ≤ (if p y = true then 1 else 0) := by
    by_cases hy : q y = true
    ·rw [if_pos hy, if_pos (h1 y List.mem_cons_self hy)]
     exact Nat.le_refl _
    ·rw [if_neg hy]
     exact Nat.zero_le _
   omega
section
variable {a0 : Act} {w0 : World} {L : List (Option Tmp)} {n m : Nat} {V : List VP}
theorem AInv.start (a0 : Act) (w0 : World) (L : List (Option Tmp)) (m : Nat) (V : List VP) {l : Nat → Bool} (hl : ∀ i, l i = false) : AInv a0 w0 L m V l (fun _ => False) a0 w0 :=
 ⟨rfl, rfl, Below.refl _ _, fun _ h => h.elim, fun _ _ => rfl, fun i t _ _ h => by rw [hl i] at h; cases h⟩
theorem AInv.step {l l' : Nat → Bool} {B B' : Nat → Prop} {a : Act} {w w' : World} {i : Nat} {v : Value} {N : Option Tmp} (inv : AInv a0 w0 L m V l B a w) (him : i < m) (hN : L[i]? = some N) (hset1 : l' i = true) (hset : ∀ j, j ≠ i → l' j = l j)
  (huniq : ∀ (i j : Nat) (t : Tmp), i < m → j < m → L[i]? = some (some t) → L[j]? = some (some t) → i = j) (hlt : ∀ (i : Nat) (t : Tmp), i < m → L[i]? = some (some t) → t < a0.tmps.size)
  (hv : (V.getD i VP.any).p B' w' v) (hb : Below w0.heap.size w w') (hmv : ∀ (j t : Nat), j < m → j ≠ i → l j = true → L[j]? = some (some t) → (V.getD j VP.any).p B w (a.eval (.tmp t)) → (V.getD j VP.any).p B' w' (a.eval (.tmp t))) (hB2 : ∀ k, B' k → w0.heap.size ≤ k ∧ k < w'.heap.size) : AInv a0 w0 L m V l' B' (a.put N v) w' := by
 refine ⟨?_, ?_, ?_, hB2, ?_, ?_⟩
 ·rw [put_size]; exact inv.size
 ·rw [put_defers]; exact inv.defers
 ·exact inv.below.trans hb
 ·intro t ht
  have hne : ∀ M, N = some M → t ≠ M := by
   intro M hM htM
   subst htM
   subst hM
   have := ht i him hN
   rw [hset1] at this
   cases this
  rw [show (a.put N v).eval (.tmp t) = a.eval (.tmp t) from by
   cases hM : N with
   | none => rfl
   | some M => exact put_other (hne M hM)]
  refine inv.other t (fun j hj hjt => ?_)
  have := ht j hj hjt
  by_cases hji : j = i
  ·subst hji
   rw [hset1] at this
   cases this
  ·rw [hset j hji] at this
   exact this
 ·intro j t hj hjt hjl
  by_cases hji : j = i
  ·subst hji
   have hM : N = some t := by
    rw [hjt] at hN
    exact (Option.some.inj hN).symm
   rw [hM, put_same (by rw [inv.size]; exact hlt j t hj hjt)]
   exact hv
  ·rw [hset j hji] at hjl
   have hne : ∀ M, N = some M → t ≠ M := by
    intro M hM htM
    subst htM
    subst hM
    exact hji (huniq j i t hj him hjt hN)
   rw [show (a.put N v).eval (.tmp t) = a.eval (.tmp t) from by
    cases hM : N with
    | none => rfl
    | some M => exact put_other (hne M hM)]
   exact hmv j t hj hji hjl hjt (inv.vals j t hj hjt hjl)
theorem AInv.filled {l : Nat → Bool} {B : Nat → Prop} {a : Act} {w : World} (inv : AInv a0 w0 L m V l B a w) : a = fillA (fun t => a.eval (.tmp t)) (L.take m) a0 := by
 refine act_ext ?_ ?_ (fun t ht => ?_)
 ·rw [fillA_size, inv.size]
 ·rw [fillA_defers, inv.defers]
 ·by_cases hmem : some t ∈ L.take m
  ·rw [fillA_at _ _ hmem (by rw [← inv.size]; exact ht)]
  ·rw [fillA_other _ _ hmem]
   refine inv.other t (fun j hj hjt => ?_)
   exact absurd (List.mem_of_getElem? (i := j) (by rw [List.getElem?_take_of_lt hj]; exact hjt)) hmem
end
def Tail (P : Program) (ops : Array Oper) (Q : Exit → Act → World → Prop) (a0 : Act) (w0 : World) (L : List (Option Tmp)) (m : Nat) (V : List VP) (R : List Oper) : Prop :=
 ∀ (vals : Nat → Value) (F : Act) (W : World) (B : Nat → Prop), F = fillA vals (L.take m) a0 → Below w0.heap.size w0 W → (∀ k, B k → w0.heap.size ≤ k ∧ k < W.heap.size) → (∀ i t, i < m → L[i]? = some (some t) → (V.getD i VP.any).p B W (vals t)) → wpList P ops Q R F W
theorem any_tail {id : Nat} {a0 : Act} {w : World} {T : Bool × List (List Nat × List Nat)} {R : List Oper} (L : List (Option Tmp)) (n m : Nat) (Bt : List Nat) (V : List VP) (hm : P.follows .mixedOrders = true) (hT : rtab .any ops = T) (hL : ops.toList.map (·.dst) = L) (hn : a0.tmps.size = n) (hc : okL L n m T Bt = true) (hR : ops.toList.drop m = R)
  (step : Each (StepOk P ops Q a0 w.drew L T V m) m 0 ops.toList) (last : Tail P ops Q a0 w.drew L m V R) : (Code.region id ops true).wp P Q a0 w := by
 simp only [okL, Bool.and_eq_true, decide_eq_true_eq] at hc
 obtain ⟨⟨⟨⟨c1, c2⟩, c3⟩, c4, c4b⟩, c5⟩ := hc
 have hsz : ops.size = L.length := by rw [← hL]; simp
 have hdst : ∀ (i : Nat) (o : Oper), ops[i]? = some o → L[i]? = some o.dst := by
  intro i o ho
  rw [← hL, List.getElem?_map, Array.getElem?_toList, ho]
  rfl
 have hneeds : ∀ (i : Nat) (o : Oper), ops[i]? = some o → (T.2.getD i ([], [])).1 = needsOf .any o := by
  intro i o ho
  rw [← hT, List.getD_eq_getElem?_getD, rtab_some ho]
  rfl
 have hneed : ∀ (i : Nat) (o : Oper) (l : Array Bool), ops[i]? = some o → (∀ e ∈ o.after, Region.binds .any e = true → l.getD e.on false = true) → ∀ j, ((T.2.getD i ([], [])).1).contains j = true → l.getD j false = true := by
  intro i o l ho hall j hj
  rw [hneeds i o ho] at hj
  unfold needsOf at hj
  rw [List.contains_iff_mem, List.mem_map] at hj
  obtain ⟨e, he, rfl⟩ := hj
  rw [List.mem_filter] at he
  exact hall e (by simpa using he.1) he.2
 have hback : ∀ (i : Nat) (o : Oper) (l : Array Bool), ops[i]? = some o → (∀ j, ((T.2.getD i ([], [])).1).contains j = true → l.getD j false = true) → l.getD i true = false → i ∈ Region.ready .any ops l := by
  intro i o l ho h hl
  refine mem_ready.2 ⟨hl, o, ho, fun e he hb => ?_⟩
  refine h e.on ?_
  rw [hneeds i o ho, List.contains_iff_mem]
  unfold needsOf
  rw [List.mem_map]
  exact ⟨e, by rw [List.mem_filter]; exact ⟨by simpa using he, hb⟩, rfl⟩
 have hlt : ∀ (i : Nat) (t : Tmp), i < m → L[i]? = some (some t) → t < n := by
  intro i t hi ht
  have := List.all_eq_true.1 c2 (some t) (List.mem_of_getElem? (i := i) (by rw [List.getElem?_take_of_lt hi]; exact ht))
  simpa using this
 have huniq : ∀ (i j : Nat) (t : Tmp), i < m → j < m → L[i]? = some (some t) → L[j]? = some (some t) → i = j := by
  intro i j t hi hj h1 h2
  exact nodup_get c3 (by rw [List.getElem?_take_of_lt hi]; exact h1) (by rw [List.getElem?_take_of_lt hj]; exact h2)
 have g1 : ∀ (l : Array Bool) (i : Nat), i < l.size → l.getD i true = false → l.getD i false = false := by
  intro l i hi h
  simp only [Array.getD_eq_getD_getElem?, Array.getElem?_eq_getElem hi, Option.getD_some] at h ⊢
  exact h
 have g2 : ∀ (l : Array Bool) (i : Nat), i < l.size → l.getD i false ≠ true → l.getD i true = false := by
  intro l i hi h
  simp only [Array.getD_eq_getD_getElem?, Array.getElem?_eq_getElem hi, Option.getD_some] at h ⊢
  simpa using h
 have htail : ∀ (l : Array Bool) (d : Nat), ListedClosed .any ops l → l.size = L.length → m ≤ d → d ∈ Region.ready .any ops l → ∀ i, i < d → l.getD i false = true := by
  intro l d hcl hls hmd hd i hid
  apply Classical.byContradiction
  intro hno
  obtain ⟨_, o, ho, _⟩ := mem_ready.1 hd
  have hdl : d < L.length := by rw [← hsz]; exact (Array.getElem?_eq_some_iff.1 ho).1
  have hb := List.all_eq_true.1 c4b d (List.mem_range.2 hdl)
  rw [Bool.or_eq_true, decide_eq_true_eq] at hb
  have hbit := List.all_eq_true.1 (hb.resolve_left (by omega)) i (List.mem_range.2 hid)
  have hTl : T.2.length = L.length := by rw [← hT, rtab_length, hsz]
  have hr := reach_bit c4 (d + 1) d (by omega) (by rw [hTl]; exact hdl) hbit
  rw [← hT, ← reach_eq] at hr
  exact Region.reach_not_ready hcl hr (g2 l i (by omega) hno) hd
 have hfirst : ∀ (l : Array Bool), l.size = L.length → (∃ i, i < L.length ∧ l.getD i true = false) → Region.ready .any ops l ≠ [] := by
  intro l hls ⟨i, hi, hil⟩ hr
  have fst : ∀ (d i : Nat), d = i → (i < L.length ∧ l.getD i true = false) → ∃ i0, i0 < L.length ∧ l.getD i0 true = false ∧ ∀ j, j < i0 → l.getD j false = true := by
   intro d
   induction d using Nat.strongRecOn with
   | _ d ih =>
    intro i hd hi
    by_cases h : ∀ j, j < i → l.getD j false = true
    ·exact ⟨i, hi.1, hi.2, h⟩
    ·simp only [Classical.not_forall] at h
     obtain ⟨j, hj, hjl⟩ := h
     exact ih j (by omega) j rfl ⟨by omega, g2 l j (by omega) hjl⟩
  obtain ⟨i0, h1, h2, h3⟩ := fst i i rfl ⟨hi, hil⟩
  have ho : ops[i0]? = some (ops[i0]'(by omega)) := Array.getElem?_eq_getElem (by omega)
  have := hback i0 _ l ho (fun j hj => h3 j (by
   have := List.all_eq_true.1 c5 i0 (List.mem_range.2 h1)
   have := List.all_eq_true.1 this j (List.contains_iff_mem.1 hj)
   simpa using this)) h2
  rw [hr] at this
  cases this
 have hset : ∀ (l : Array Bool) (i j : Nat), j ≠ i → ∀ b, (l.setIfInBounds i true).getD j b = l.getD j b := by
  intro l i j hj b
  simp [Array.getD_eq_getD_getElem?, Array.getElem?_setIfInBounds, Ne.symm hj]
 have hset1 : ∀ (l : Array Bool) (i : Nat), i < l.size → ∀ b, (l.setIfInBounds i true).getD i b = true := by
  intro l i hi b
  simp [Array.getD_eq_getD_getElem?, Array.getElem?_setIfInBounds, hi]
 -- the tail, one by one
 have tail : ∀ (q d : Nat) (l : Array Bool) (a : Act) (W : World) (fuel : Nat), d + q = L.length → m ≤ d → q ≤ fuel → l.size = L.length → ListedClosed .any ops l → (∀ i, i < d → l.getD i false = true) → (∀ i, d ≤ i → i < L.length → l.getD i true = false) → wpList P ops Q (ops.toList.drop d) a W → wpAny P .any ops Q fuel l a W := by
  intro q
  induction q with
  | zero =>
   intro d l a W fuel hd hmd hq hls hcl hall _ hw
   rw [List.drop_of_length_le (by rw [Array.length_toList]; omega)] at hw
   refine wpAny_done ?_ hw fuel
   rw [List.eq_nil_iff_forall_not_mem]
   intro j hj
   obtain ⟨q1, oj, hoj, _⟩ := mem_ready.1 hj
   have hjm : j < L.length := by rw [← hsz]; exact (Array.getElem?_eq_some_iff.1 hoj).1
   have := g1 l j (by omega) q1
   rw [hall j (by omega)] at this
   cases this
  | succ q ih =>
   intro d l a W fuel hd hmd hq hls hcl hall hun hw
   obtain ⟨fuel, rfl⟩ : ∃ f, fuel = f + 1 := ⟨fuel - 1, by omega⟩
   have hdl : d < ops.toList.length := by rw [Array.length_toList]; omega
   rw [List.drop_eq_getElem_cons hdl] at hw
   refine ⟨fun hr => absurd hr (hfirst l hls ⟨d, by omega, hun d (Nat.le_refl _) (by omega)⟩), fun i hi => ?_⟩
   have hid : i = d := by
    obtain ⟨q1, oi, hoi, _⟩ := mem_ready.1 hi
    have hil : i < L.length := by rw [← hsz]; exact (Array.getElem?_eq_some_iff.1 hoi).1
    rcases Nat.lt_trichotomy i d with h | h | h
    ·have := g1 l i (by omega) q1
     rw [hall i h] at this
     cases this
    ·exact h
    ·have := htail l i hcl hls (by omega) hi d h
     rw [g1 l d (by omega) (hun d (Nat.le_refl _) (by omega))] at this
     cases this
   subst hid
   have ho : ops[i]? = some ops.toList[i] := by rw [← Array.getElem?_toList]; exact List.getElem?_eq_getElem hdl
   have hw2 : wpOp P ops Q i (wpList P ops Q (ops.toList.drop (i + 1))) a W := by
    unfold wpOp
    rw [ho]
    exact hw
   refine wpOp_mono (fun a' w' h => ?_) hw2
   refine ih (i + 1) _ a' w' fuel (by omega) (by omega) (by omega) (by rw [Array.size_setIfInBounds]; exact hls) (hcl.set hi) (fun j hj => ?_) (fun j hj hjl => ?_) h
   ·by_cases hji : j = i
    ·subst hji; exact hset1 l j (by omega) _
    ·rw [hset l i j hji]; exact hall j (by omega)
   ·rw [hset l i j (by omega)]
    exact hun j (by omega) hjl
 refine wp_region_any hm ?_
 have key : ∀ (fuel : Nat) (l : Array Bool) (B : Nat → Prop) (a : Act) (W : World), AInv a0 w.drew L m V (fun i => l.getD i false) B a W → l.size = L.length → ListedClosed .any ops l → (∀ i, m ≤ i → i < L.length → l.getD i true = false) → (List.range L.length).countP (fun i => !l.getD i true) ≤ fuel → wpAny P .any ops Q fuel l a W := by
  intro fuel
  induction fuel with
  | zero =>
   intro l B a W inv hls hcl hun hf
   have h0 : (List.range L.length).countP (fun i => !l.getD i true) = 0 := by omega
   rw [List.countP_eq_zero] at h0
   exact absurd (by rw [hun m (Nat.le_refl _) c1]; rfl) (h0 m (List.mem_range.2 c1))
  | succ fuel ih =>
   intro l B a W inv hls hcl hun hf
   refine ⟨fun hr => absurd hr (hfirst l hls ⟨m, c1, hun m (Nat.le_refl _) c1⟩), fun i hi => ?_⟩
   obtain ⟨h1, o, ho, h2'⟩ := mem_ready.1 hi
   have h2 := hneed i o l ho h2'
   have hil : i < L.length := by rw [← hsz]; exact (Array.getElem?_eq_some_iff.1 ho).1
   by_cases him : i < m
   ·unfold wpOp
    rw [ho]
    simp only
    have hst := Each.at m 0 ops.toList step i o him (by rw [Array.getElem?_toList]; exact ho)
    rw [Nat.zero_add] at hst
    have hgo3 : ∀ (B' : Nat → Prop) v W', (V.getD i VP.any).p B' W' v → Below w.drew.heap.size W W' → (∀ (j t : Nat), j < m → j ≠ i → ((T.2.getD j ([], [])).1).contains i = false → L[j]? = some (some t) → (V.getD j VP.any).p B W (a.eval (.tmp t)) → (V.getD j VP.any).p B' W' (a.eval (.tmp t))) → (∀ k, B' k → w.drew.heap.size ≤ k ∧ k < W'.heap.size) → wpAny P .any ops Q fuel (l.setIfInBounds i true) (a.put o.dst v) W' := by
     intro B' v W' hv hb hmv hB2
     refine ih _ B' _ _ (inv.step him (hdst i o ho) (hset1 l i (by omega) _) (fun j hj => hset l i j hj _) huniq (fun i t h3 h4 => by rw [hn]; exact hlt i t h3 h4) hv hb (fun j t hj hne hjl hjt hp => hmv j t hj hne (by
      cases hcc : ((T.2.getD j ([], [])).1).contains i with
      | false => rfl
      | true =>
       exfalso
       have hjs : j < ops.size := by rw [hsz]; exact (List.getElem?_eq_some_iff.1 hjt).1
       have hoj : ops[j]? = some (ops[j]'hjs) := Array.getElem?_eq_getElem hjs
       have := hneed j _ l hoj (fun e he hb => hcl j _ hoj hjl e he hb) i hcc
       have h9 := g1 l i (by omega) h1
       rw [this] at h9
       cases h9) hjt hp) hB2) (by rw [Array.size_setIfInBounds]; exact hls) (hcl.set hi) (fun j hj hjl => by rw [hset l i j (by omega)]; exact hun j hj hjl) ?_
     have := countP_lt (p := fun j => !l.getD j true) (q := fun j => !(l.setIfInBounds i true).getD j true) (List.range L.length) (fun j _ hq => by
      by_cases hji : j = i
      ·subst hji
       rw [hset1 l j (by omega)] at hq
       cases hq
      ·rwa [hset l i j hji] at hq) ⟨i, List.mem_range.2 hil, by rw [h1]; rfl, by rw [hset1 l i (by omega)]; rfl⟩
     omega
    have hgo : ∀ (B' : Nat → Prop) v W', (V.getD i VP.any).p B' W' v → Below W.heap.size W W' → (∀ k, B k → B' k) → (∀ k, B' k → B k ∨ W.heap.size ≤ k) → (∀ k, B' k → w.drew.heap.size ≤ k ∧ k < W'.heap.size) → wpAny P .any ops Q fuel (l.setIfInBounds i true) (a.put o.dst v) W' :=
     fun B' v W' hv hb hB0 hB1 hB2 => hgo3 B' v W' hv (hb.mono inv.below.size) (fun j t _ _ _ _ h => (V.getD j VP.any).move B B' _ _ _ hb hB0 hB1 h) hB2
    have hst2 := hst a W B inv.below inv.boxes (fun t ht => inv.other t (fun j hj hjt => absurd (List.contains_iff_mem.2 (List.mem_of_getElem? (i := j) (by rw [List.getElem?_take_of_lt hj]; exact hjt))) (by rw [ht]; simp)))
     (fun j t hj hjt => by
      have hjm : j < m := by
       have := List.all_eq_true.1 c5 i (List.mem_range.2 hil)
       have := List.all_eq_true.1 this j (List.contains_iff_mem.1 hj)
       simp only [decide_eq_true_eq] at this
       omega
      exact inv.vals j t hjm hjt (h2 j hj)) (wpAny P .any ops Q fuel (l.setIfInBounds i true))
     (fun v W' hv hb => hgo B v W' hv hb (fun k hk => hk) (fun k hk => .inl hk) (fun k hk => ⟨(inv.boxes k hk).1, Nat.lt_of_lt_of_le (inv.boxes k hk).2 hb.size⟩))
     (fun v W' hv hb hlt2 => hgo _ v W' hv hb (fun k hk => .inl hk) (fun k hk => hk.elim .inl (fun h => .inr (Nat.le_of_eq h.symm))) (fun k hk => hk.elim (fun hk => ⟨(inv.boxes k hk).1, Nat.lt_of_lt_of_le (inv.boxes k hk).2 hb.size⟩) (fun h => by rw [h]; exact ⟨inv.below.size, hlt2⟩)))
     (fun v W' hv hb hmv => hgo3 B v W' hv hb hmv (fun k hk => ⟨(inv.boxes k hk).1, Nat.lt_of_lt_of_le (inv.boxes k hk).2 hb.size⟩))
    by_cases hw : Region.wanted o (yielded ops a.tmps) = true
    ·rw [if_pos hw] at hst2 ⊢
     exact .inl hst2
    ·rw [if_neg hw] at hst2 ⊢
     exact hst2
   ·have hall := htail l i hcl hls (by omega) hi
    have hime : i = m := by
     rcases Nat.lt_or_ge m i with h | h
     ·have := hall m h
      rw [g1 l m (by omega) (hun m (Nat.le_refl _) c1)] at this
      cases this
     ·omega
    subst hime
    have hl := last (fun t => a.eval (.tmp t)) a W B inv.filled inv.below inv.boxes (fun j t hj hjt => inv.vals j t hj hjt (hall j hj))
    rw [← hR] at hl
    have hdl : i < ops.toList.length := by rw [Array.length_toList]; omega
    rw [List.drop_eq_getElem_cons hdl] at hl
    have ho2 : ops[i]? = some ops.toList[i] := by rw [← Array.getElem?_toList]; exact List.getElem?_eq_getElem hdl
    have hw2 : wpOp P ops Q i (wpList P ops Q (ops.toList.drop (i + 1))) a W := by
     unfold wpOp
     rw [ho2]
     exact hl
    refine wpOp_mono (fun a' w' h => ?_) hw2
    refine tail (L.length - (i + 1)) (i + 1) _ a' w' fuel (by omega) (by omega) ?_ (by rw [Array.size_setIfInBounds]; exact hls) (hcl.set hi) (fun j hj => ?_) (fun j hj hjl => ?_) h
    ·have hle : L.length - i ≤ (List.range L.length).countP (fun j => !l.getD j true) := by
      have hcount : ∀ (k : Nat), k ≤ L.length → k - i ≤ (List.range k).countP (fun j => !l.getD j true) := by
       intro k
       induction k with
       | zero => intro _; omega
       | succ k ihk =>
        intro hk
        rw [List.range_succ, List.countP_append, List.countP_cons, List.countP_nil]
        have := ihk (by omega)
        by_cases hki : i ≤ k
        ·rw [hun k hki (by omega)]
         simp only [Bool.not_false, if_true]
         omega
        ·omega
      exact hcount L.length (Nat.le_refl _)
     omega
    ·by_cases hji : j = i
     ·subst hji; exact hset1 l j (by omega) _
     ·rw [hset l i j hji]; exact hall j (by omega)
    ·rw [hset l i j (by omega)]
     exact hun j (by omega) hjl
 refine key ops.size _ (fun _ => False) a0 w.drew (AInv.start a0 w.drew L m V (fun i => ?_)) (by rw [Array.size_replicate, hsz]) (fun j oj hj hl => ?_) (fun i _ hi => ?_) ?_
 ·by_cases hi : i < ops.size <;> simp [Array.getD_eq_getD_getElem?, hi]
 ·exfalso
  by_cases hi : j < ops.size <;> simp [Array.getD_eq_getD_getElem?, hi] at hl
 ·simp [Array.getD_eq_getD_getElem?, hsz, hi]
 ·rw [hsz]
  exact Nat.le_trans List.countP_le_length (by simp)
end
section
variable {P : Program} {ops : Array Oper} {Q : Exit → Act → World → Prop} {o : Oper} {b : Act} {W : World} {K : Act → World → Prop} {s s1 s2 s3 : Tmp}
theorem tm_eval {b : Act} {t : Tmp} {v : Value} (h : b.eval (.tmp t) = v) : b.tmps[t]?.getD undef = v := by
 rw [← h]
 simp [Act.eval]
theorem wn_ (hg : o.guard = none := by rfl) : Region.wanted o (yielded ops b.tmps) = true := by unfold Region.wanted; rw [hg]
theorem gd_step {C : Bool} {u : Value} (hw : Region.wanted o (yielded ops b.tmps) = C) (hr : C = true → (execOp b.eval o).run P W = .ok (.value u) W) (hK : K (b.put o.dst (cond C u undef)) W) :
  if Region.wanted o (yielded ops b.tmps) = true then Oper.wp P o b W K Q else K (b.put o.dst undef) W := by
 cases C with
 | true => exact value_ hw rfl (hr rfl) hK
 | false => rw [hw]; exact hK
theorem x_move {u : Value} (ho : o.op = .move (.tmp s)) (h : b.eval (.tmp s) = u) : (execOp b.eval o).run P W = .ok (.value u) W := by
 unfold execOp
 rw [ho]
 simp only [h]
 rfl
theorem args2 {b : Act} {p q : Operand} {x y : Value} (h1 : b.eval p = x) (h2 : b.eval q = y) : (#[p, q] : Array Operand).map b.eval = #[x, y] := by
 simp only [List.map_toArray, List.map_cons, List.map_nil, h1, h2]
end
section
variable {ops : Array Oper} {Q : Exit → Act → World → Prop} {o : Oper} {b : Act} {W : World} {K : Act → World → Prop} {s s1 s2 s3 : Tmp}
theorem x_slhi22 {ad : Addr} {n c k : Nat} (ho : o.op = .slice 22 (.tmp s) none (some (.tmp s2)) none) (h : b.eval (.tmp s) = .slice (some ad) n c) (h2 : b.eval (.tmp s2) = .int .i64 k) (hk : k ≤ c) : (execOp b.eval o).run Try.prog W = .ok (.value (.slice (some ad) k c)) W := by
 have hu22 := Try.underlying22
 have hk2 : (k : Int) ≤ (c : Int) := Int.ofNat_le.2 hk
 have hk0 : (0 : Int) ≤ (k : Int) := Int.natCast_nonneg _
 replace h := tm_eval h
 replace h2 := tm_eval h2
 unfold execOp
 rw [ho]
 go_simp
theorem x_sllo22 {ad : Addr} {n c k : Nat} (ho : o.op = .slice 22 (.tmp s) (some (.tmp s2)) none none) (h : b.eval (.tmp s) = .slice (some ad) n c) (h2 : b.eval (.tmp s2) = .int .i64 k) (hk : k ≤ n) (hc : n ≤ c) : (execOp b.eval o).run Try.prog W = .ok (.value (.slice (some (if c = k then ad else ad.add k)) (n - k) (c - k))) W := by
 have hu22 := Try.underlying22
 have hk2 : (k : Int) ≤ (n : Int) := Int.ofNat_le.2 hk
 have hk0 : (0 : Int) ≤ (k : Int) := Int.natCast_nonneg _
 replace h := tm_eval h
 replace h2 := tm_eval h2
 unfold execOp
 rw [ho]
 go_simp
 by_cases hck : c = k
 ·rw [if_pos hck, if_pos hck]
 ·rw [if_neg hck, if_neg hck]
end
section
variable {ops : Array Oper} {rest : List Oper} {o : Oper} {a : Act} {Q : Exit → Act → World → Prop}
end
theorem heap_keep {w w1 : World} {g : Nat} {o : Obj} (hk : w.heap[g]? = some o) (hb : Below w.heap.size w w1) : w1.heap[g]? = some o := by
 have hlt : g < w.heap.size := by
  rcases Nat.lt_or_ge g w.heap.size with q | q
  ·exact q
  ·rw [Array.getElem?_eq_none q] at hk; cases hk
 rw [hb.block g hlt]; exact hk
section
variable {ops : Array Oper} {Q : Exit → Act → World → Prop} {o : Oper} {b : Act} {W : World} {K : Act → World → Prop} {s s1 s2 s3 : Tmp}
theorem x_lit22 (ho : o.op = .buildSlice 22 0 #[]) : (execOp b.eval o).run Try.prog W = .ok (.value (.slice (some ⟨W.heap.size, 0, none⟩) 0 0)) (W.alloc (.cells #[] 37)) := by
 have hu22 := Try.underlying22
 unfold execOp
 rw [ho]
 go_simp
theorem x_app22 {v1 v2 v' : Value} {W' : World} (ho : o.op = .call { callee := .builtin .append, args := #[.tmp s, .tmp s2], argTypes := #[22, 22] }) (h1 : b.eval (.tmp s) = v1) (h2 : b.eval (.tmp s2) = v2) (hr : ∀ ty, (Builtin.append_ #[22, 22] ty #[v1, v2]).run Try.prog W = .ok v' W') : (execOp b.eval o).run Try.prog W = .ok (.value v') W' := by
 unfold execOp
 simp only [ho, resolve, invoke, builtin, Sem.run_bind, Sem.run_pure, Result.andThen_ok, List.map_toArray, List.map_cons, List.map_nil, h1, h2, hr]
end
theorem cell_at_heap {w : World} {b : Nat} {cs : Array Value} {T : TypeId} {fr : Nat × Nat} (hb : w.heap[b]? = some (.cells cs T fr)) (j : Nat) : w.cell? ⟨b, j, none⟩ = cs[j]? := by
 simp [World.cell?, hb]
theorem frozen_at_heap {w : World} {b : Nat} {cs : Array Value} {T : TypeId} (hb : w.heap[b]? = some (.cells cs T (0, 0))) (j : Nat) : w.frozen? ⟨b, j, none⟩ = false := by
 simp [World.frozen?, hb]
theorem heap_set {w : World} {N j : Nat} {cs : Array Value} {t : TypeId} {u : Value} (h : w.heap[N]? = some (.cells cs t (0, 0))) : (w.setCell ⟨N, j, none⟩ u).heap[N]? = some (.cells (cs.setIfInBounds j u) t (0, 0)) := by
 rw [setCell_eq_setRow w N j cs t (0, 0) u h]
 exact setRow_heap w N cs _ t _ h
section
variable {ops : Array Oper} {rest : List Oper} {o : Oper} {a : Act} {Q : Exit → Act → World → Prop}
end
theorem eqS_l0 (l l' : List Int) (hl : l.length = l'.length) (hn : l.length ≤ 9223372036854775807) : ∀ (d i : Nat), i + d = l.length → ∃ k, slices_Equal_int_int.l0 k l l' (l.length : Int) (i : Int) = some (decide (l.drop i = l'.drop i)) := by
 intro d
 induction d with
 | zero =>
  intro i hi
  refine ⟨1, ?_⟩
  rw [slices_Equal_int_int.l0, if_neg (by omega), List.drop_of_length_le (by omega), List.drop_of_length_le (by omega)]
  rfl
 | succ d ih =>
  intro i hi
  obtain ⟨k, hk⟩ := ih (i + 1) (by omega)
  refine ⟨k + 1, ?_⟩
  have hw : wrap64 ((i : Int) + 1) = ((i + 1 : Nat) : Int) := IntWalk.wrap64_in _ (by omega)
  have h1 : i < l.length := by omega
  have h2 : i < l'.length := by omega
  have r1 : rd l (i : Int) = l[i] := by unfold rd; simp [List.getD, h1]
  have r2 : rd l' (i : Int) = l'[i] := by unfold rd; simp [List.getD, h2]
  rw [slices_Equal_int_int.l0, if_pos (by omega), if_pos (by omega), if_pos (by omega), if_pos (by omega), hw, hk, r1, r2]
  have hd : (l.drop i = l'.drop i) ↔ (l[i] = l'[i] ∧ l.drop (i + 1) = l'.drop (i + 1)) := by
   rw [List.drop_eq_getElem_cons h1, List.drop_eq_getElem_cons h2, List.cons.injEq]
  by_cases he : l[i] = l'[i]
  ·rw [if_pos he]
   exact congrArg some (decide_eq_decide.2 (by rw [hd]; exact ⟨fun h => ⟨he, h⟩, fun h => h.2⟩))
  ·rw [if_neg he, decide_eq_false (fun h => he (hd.1 h).1)]
theorem eqS_is (l l' : List Int) (hn : l'.length ≤ 9223372036854775807) : ∃ k, slices_Equal_int_int.f k l l' = some (decide (l = l')) := by
 by_cases hl : l.length = l'.length
 ·obtain ⟨k, hk⟩ := eqS_l0 l l' hl (by omega) l.length 0 (by omega)
  refine ⟨k, ?_⟩
  rw [slices_Equal_int_int.f, if_pos (by omega)]
  simpa using hk
 ·refine ⟨0, ?_⟩
  rw [slices_Equal_int_int.f, if_neg (by omega), decide_eq_false (fun e => hl (by rw [e]))]
def cpF : Rec → List Rec → List Rec
 | _, [] => []
 | p, r :: s => if r.l = p.l then cpF r s else r :: cpF r s
def cpR : List Rec → List Rec
 | [] => []
 | r :: s => r :: cpF r s
def cmpG : List Int → List (List Int) → List (List Int)
 | _, [] => []
 | p, r :: s => if r = p then cmpG r s else r :: cmpG r s
def cmpX : List (List Int) → List (List Int)
 | [] => []
 | r :: s => r :: cmpG r s
theorem cpF_map : ∀ (s : List Rec) (p : Rec), (cpF p s).map (·.l) = cmpG p.l (s.map (·.l))
 | [], p => rfl
 | r :: s, p => by
  rw [cpF, List.map_cons, cmpG]
  by_cases h : r.l = p.l
  ·rw [if_pos h, if_pos h, cpF_map s r]
  ·rw [if_neg h, if_neg h, List.map_cons, cpF_map s r]
theorem cpR_map (rs : List Rec) : (cpR rs).map (·.l) = cmpX (rs.map (·.l)) := by
 cases rs with
 | nil => rfl
 | cons r s => rw [cpR, List.map_cons, List.map_cons, cmpX, cpF_map]
theorem cpF_sub : ∀ (s : List Rec) (p : Rec), (cpF p s).Sublist s
 | [], p => List.Sublist.refl _
 | r :: s, p => by
  rw [cpF]
  by_cases h : r.l = p.l
  ·rw [if_pos h]; exact (cpF_sub s r).cons _
  ·rw [if_neg h]; exact (cpF_sub s r).cons_cons _
theorem cpR_sub (rs : List Rec) : (cpR rs).Sublist rs := by
 cases rs with
 | nil => exact List.Sublist.refl _
 | cons r s => exact (cpF_sub s r).cons_cons _
structure CW (w wr : World) (base blk cap : Nat) (C : Array Value) : Prop where
 cells : wr.heap[blk]? = some (.cells C 37 (0, 0))
 size : C.size = cap
 below : Below base w wr
 hbb : base ≤ blk
 hbw : base ≤ w.heap.size
 keep : ∀ k, k < w.heap.size → k ≠ blk → wr.heap[k]? = w.heap[k]?
theorem CW.on {w wr wr' : World} {base blk cap : Nat} {C : Array Value} (h : CW w wr base blk cap C) (hb : Below wr.heap.size wr wr') : CW w wr' base blk cap C :=
 ⟨heap_keep h.cells hb, h.size, h.below.trans (hb.mono (Nat.le_trans h.hbw h.below.size)), h.hbb, h.hbw, fun k hk hne => by rw [hb.block k (Nat.lt_of_lt_of_le hk h.below.size)]; exact h.keep k hk hne⟩
theorem CW.put {w wr : World} {base blk cap : Nat} {C : Array Value} (h : CW w wr base blk cap C) (j : Nat) (u : Value) : CW w (wr.setCell ⟨blk, j, none⟩ u) base blk cap (C.setIfInBounds j u) :=
 ⟨heap_set h.cells, by rw [Array.size_setIfInBounds]; exact h.size, h.below.setCell (p := ⟨blk, j, none⟩) h.hbb u, h.hbb, h.hbw, fun k hk hne => by
  rw [Below.heap_setCell wr ⟨blk, j, none⟩ u k hne]; exact h.keep k hk hne⟩
theorem CW.cell {w wr : World} {base blk cap : Nat} {C : Array Value} (h : CW w wr base blk cap C) {j : Nat} {u : Value} (hj : C[j]? = some u) : wr.cell? ⟨blk, j, none⟩ = some u := (cell_at_heap h.cells j).trans hj
theorem CW.clear {w wr : World} {base blk cap : Nat} {C : Array Value} (h : CW w wr base blk cap C) (o n : Nat) (u : Value) (hl : o + n ≤ C.size) : ∃ C', CW w (wr.setCells blk o (List.replicate n u)) base blk cap C' ∧ C'.toList.take o = C.toList.take o := by
 obtain ⟨C', h1, h2, h3⟩ := setCells_row (List.replicate n u) o wr C h.cells (by rw [List.length_replicate]; exact hl)
 obtain ⟨s1, s2, s3, s4⟩ := setCells_same blk (List.replicate n u) o wr
 refine ⟨C', ⟨h1, by rw [h2]; exact h.size, h.below.trans ⟨s1, s2, s3, Nat.le_of_eq s4.symm, fun k hk => setCells_far _ _ k (by have := h.hbb; omega)⟩, h.hbb, h.hbw, fun k hk hne => by rw [setCells_far _ _ k hne]; exact h.keep k hk hne⟩, ?_⟩
 rw [h3, List.append_assoc, List.take_append_of_le_length (by rw [List.length_take, Array.length_toList]; omega), List.take_take, Nat.min_self]
theorem CW.recK {w wr : World} {base blk cap : Nat} {C : Array Value} (h : CW w wr base blk cap C) {ok : Nat → Prop} {f : Nat → Nat} {r : Rec} (hr : RecOK w base (fun k => ok k ∧ some k ≠ some blk) f r) : RecOK wr base (fun k => ok k ∧ some k ≠ some blk) f r :=
 recOK_step hr (fun k hk hlt => h.keep k hlt (fun e => hk.2 (by rw [e])))
theorem eqRec {w wr : World} {base blk cap : Nat} {C : Array Value} (h : CW w wr base blk cap C) {ok : Nat → Prop} {f : Nat → Nat} {r r' : Rec} (hr : RecOK w base (fun k => ok k ∧ some k ≠ some blk) f r) (hr' : RecOK w base (fun k => ok k ∧ some k ≠ some blk) f r') :
  Calls Try.prog 94 #[r.v, r'.v] wr fun e w' => e = .returned (.bool (decide (r.l = r'.l))) ∧ Drawn0 wr w' := by
 obtain ⟨A, c, e1, h1, h2⟩ := recOK_reads (h.recK hr)
 obtain ⟨A', c', e1', h1', h2'⟩ := recOK_reads (h.recK hr')
 obtain ⟨k, hk⟩ := eqS_is r.l r'.l (Kd.C_max h2')
 rw [e1, e1']
 exact slices_Equal_int_int.calls k A c r.l A' c' r'.l _ wr h2 h1 h2' h1' hk
section
variable {ops : Array Oper} {Q : Exit → Act → World → Prop} {o : Oper} {b : Act} {W : World} {K : Act → World → Prop} {s s1 s2 s3 : Tmp}
theorem x_ix22 {ad : Addr} {n c k : Nat} (ho : o.op = .indexAddr 22 (.tmp s) (.tmp s2)) (h : b.eval (.tmp s) = .slice (some ad) n c) (h2 : b.eval (.tmp s2) = .int .i64 k) (hk : k < n) (hn : n ≤ 9223372036854775807) : (execOp b.eval o).run Try.prog W = .ok (.value (.pointer (some (ad.add k)))) W := by
 have hu22 := Try.underlying22
 have h0 : (0 : Int) ≤ (k : Int) := by omega
 have h1 : (k : Int) < (n : Int) := by omega
 unfold execOp
 rw [ho]
 simp only [h, h2]
 go_simp
theorem x_ld37 {ad : Addr} {A : Option Addr} {n c : Nat} (ho : o.op = .load 37 (.tmp s)) (h : b.eval (.tmp s) = .pointer (some ad)) (hc : W.cell? ad = some (.slice A n c)) : (execOp b.eval o).run Try.prog W = .ok (.value (.slice A n c)) W := by
 unfold execOp
 rw [ho]
 simp only [h]
 go_simp
theorem x_subi {x y z : Int} {p q : Operand} (ho : o.op = .binOp .sub 3 p q 3) (h1 : b.eval p = .int .i64 x) (h2 : b.eval q = .int .i64 y) (hz : IntKind.i64.wrap (x - y) = z) : (execOp b.eval o).run Try.prog W = .ok (.value (.int .i64 z)) W := by
 have hu3 := Try.underlying3
 subst hz
 unfold execOp
 rw [ho]
 simp only [h1, h2]
 go_simp
theorem x_callv {f : FuncId} {fn : Func} {aa : Array Operand} {ts : Array TypeId} {args : Array Value} (hf : Try.prog.funcs[f]? = some fn) (hname : (fn.name == "runtime.NumGoroutine") = false) (hb : fn.body.isSome = true) (ho : o.op = .call { callee := .value (.tmp s), args := aa, argTypes := ts }) (h0 : b.eval (.tmp s) = .func (.func f) #[] #[]) (h : aa.map b.eval = args) : (execOp b.eval o).run Try.prog W = .ok (.enter f args) W := by
 have he := enters_ hf hname hb args W
 unfold execOp
 simp [ho, resolve, Deferred.ofValue, invoke, h0, h, he]
theorem last_call {f : FuncId} {args : Array Value} {R : List Oper} (hg : o.guard = none) (hr : (execOp b.eval o).run Try.prog W = .ok (.enter f args) W) (hc : Calls Try.prog f args W fun e W' => ∃ u, e = .returned u ∧ wpList Try.prog ops Q R (b.put o.dst u) W') : wpList Try.prog ops Q (o :: R) b W := by
 have h := call_ (P := Try.prog) (ops := ops) (Q := Q) (K := wpList Try.prog ops Q R) f args (wn_ hg) rfl hr hc
 unfold wpList
 by_cases hq : Region.wanted o (yielded ops b.tmps) = true
 ·rw [if_pos hq] at h ⊢
  exact .inl h
 ·rw [if_neg hq] at h ⊢
  exact h
end
theorem add_zero_off (q m : Nat) : (⟨q, 0, none⟩ : Addr).add m = ⟨q, m, none⟩ := by unfold Addr.add; split <;> simp_all
theorem add_off (q o m : Nat) : (⟨q, o, none⟩ : Addr).add m = ⟨q, o + m, none⟩ := by unfold Addr.add; split <;> simp_all
theorem CW.done {w wr : World} {base blk cap : Nat} {C : Array Value} (h : CW w wr base blk cap C) {ok : Nat → Prop} {f : Nat → Nat} {rs ks : List Rec} (hsub : ks.Sublist rs) (ht : (rs.map (·.t)).Nodup) (hr : ∀ r ∈ rs, RecOK w base (fun k => ok k ∧ some k ≠ some blk) f r)
  (htk : C.toList.take ks.length = ks.map (·.v)) (hle : ks.length ≤ cap) (hcm : cap ≤ maxLen) (h0 : ok blk) : Kd.S (Kd.slice 3 (Kd.int .i64)) 37 wr base ok (.slice (some ⟨blk, 0, none⟩) ks.length cap) (ks.map (·.l)) :=
 of_recs (f := f) (fun k hk => by obtain rfl : blk = k := Option.some.inj hk; exact h0) ⟨by rw [List.length_map, Nat.mul_one], .inr ⟨blk, cap, C, rfl, h.hbb, h.cells, hle, hcm, by rw [h.size, Nat.mul_one], by rw [Nat.mul_one]; exact htk⟩⟩
  ((hsub.map (·.t)).nodup ht) (fun r hr2 => h.recK (hr r (hsub.subset hr2)))
def cmp_T : Bool × List (List Nat × List Nat) := (true, [([], []), ([], []), ([], []), ([1, 2], [1, 2]), ([3], [3]), ([], []), ([], []), ([6], [6]), ([5, 7], [5, 7]), ([8], [8]), ([0, 4, 9], [0, 4, 9])])
theorem cmp_tab : rtab .any (opsOf Try.f93 6) = cmp_T := by kernel_rfl
def cmp_T2 : Bool × List (List Nat × List Nat) := (true, [([], []), ([], []), ([], []), ([1, 2], [1, 2]), ([3], [3]), ([], []), ([], []), ([6], [6]), ([5, 7], [5, 7]), ([8], [8]), ([0, 4, 9], [0, 4, 9]), ([10], [10])])
theorem cmp_tab2 : rtab .any (opsOf Try.f93 11) = cmp_T2 := by kernel_rfl
theorem i64_prev {k : Nat} (h1 : 1 ≤ k) (h : k ≤ 9223372036854775807) : IntKind.i64.wrap ((k : Int) - 1) = ((k - 1 : Nat) : Int) := by
 rw [show (k : Int) - 1 = ((k - 1 : Nat) : Int) by omega]
 exact IntWalk.i64_in _ (by omega)
set_option maxHeartbeats 3000000 in
set_option maxRecDepth 100000 in
theorem compactRows {w : World} {base : Nat} {ok : Nat → Prop} {v : Value} {xs : List (List Int)} (h : Kd.S (Kd.slice 3 (Kd.int .i64)) 37 w base ok v xs) (hn : xs.length ≤ 4096) (hbase : base ≤ w.heap.size) :
  Calls Try.prog 93 #[v, .func (.func 94) #[] #[]] w fun e w' => ∃ v', e = .returned v' ∧ Kd.S (Kd.slice 3 (Kd.int .i64)) 37 w' base ok v' (cmpX xs) ∧ Below base w w' ∧ (∀ k, k < w.heap.size → some k ≠ v.ownBlock → w'.heap[k]? = w.heap[k]?) ∧ (∀ k, v'.ownBlock = some k → v.ownBlock = some k) := by
 obtain ⟨f, rs, h0, ho, hl, ht, hr⟩ := recs_of h
 have hlen : rs.length = xs.length := by rw [← hl, List.length_map]
 by_cases hp : rs.length < 2
 ·have hxs : cmpX xs = xs := by
   match xs, hlen with
   | [], _ => rfl
   | [_], _ => rfl
   | _ :: _ :: _, hlen => simp at hlen; omega
  have hlz : (xs.length : Int) < 2 := by omega
  obtain ⟨A, c, rfl⟩ := Kd.S_slice h
  have H := Aside0.mk h
  have HX := Aside0.mk hxs
  clear h ho hr h0 hl ht hxs hlen hp
  go_enter Try.func93, Try.ntmps93
  go_wp2
  go_ret
  exact ⟨_, rfl, by rw [HX.out]; exact H.out, Below.refl _ _, fun _ _ _ => rfl, fun _ hk => hk⟩
 ·obtain ⟨blk, cap, cur, rfl, hbb, hk, hnc, hcm, hcs, htk⟩ := own_cells ho (by omega)
  have hC0 : CW w w base blk cap cur := ⟨hk, hcs, Below.refl _ _, hbb, hbase, fun _ _ _ => rfl⟩
  have h0b : ok blk := h0 blk rfl
  have hat : ∀ j (hj : j < rs.length), cur[j]? = some rs[j].v := by
   intro j hj
   have e1 : (rs.map (·.v))[j]? = some rs[j].v := by rw [List.getElem?_map, List.getElem?_eq_getElem hj]; rfl
   rw [← htk, List.getElem?_take_of_lt hj] at e1
   simpa using e1
  have hxl : xs.length = rs.length := hlen.symm
  have HN := Aside0.mk (show rs.length ≤ 4096 by omega)
  have HNC := Aside0.mk (And.intro hnc hcm)
  have HAT := Aside0.mk hat
  have HTK := Aside0.mk htk
  have HR := Aside0.mk hr
  have HT := Aside0.mk ht
  have HL := Aside0.mk hl
  have H0 := Aside0.mk h0b
  have HC := Aside0.mk hC0
  have H2 := Aside0.mk hp
  have hmax : rs.length ≤ 9223372036854775807 := by omega
  have h2z : ¬ (rs.length : Int) < 2 := by omega
  have HKE : ∀ wr C, CW w wr base blk cap C → ∀ j (hj : j < rs.length), True := fun _ _ _ _ _ => trivial
  clear h ho hr h0 hl ht hk hbb hnc hcm hcs htk hC0 h0b hat hp hxl hlen hbase hn HKE
  go_enter Try.func93, Try.ntmps93
  go_wp2
  go_loopg [5] rs.length (fun gg v5 wr => ∃ (kk : Nat), v5 = .int .i64 kk ∧ 1 ≤ kk ∧ kk ≤ rs.length ∧ rs.length - kk ≤ gg ∧ Aside0 (∀ p, rs[kk - 1]? = some p → cpR rs = rs.take kk ++ cpF p (rs.drop kk)) ∧ Aside0 (CW w wr base blk cap cur))
  case atStart =>
   refine ⟨1, rfl, Nat.le_refl _, ?_, ?_, ⟨?_⟩, HC⟩
   ·have := H2.out; omega
   ·omega
   ·intro p hp
    cases hrs : rs with
    | nil => rw [hrs] at hp; simp at hp
    | cons r s =>
     rw [hrs] at hp
     have : r = p := by simpa using hp
     subst this
     rfl
  case round =>
   obtain ⟨kk, rfl, hk1, hk2, hgk, HF, HC2⟩ := hrel
   by_cases hlt : kk < rs.length
   ·have hltz : (kk : Int) < (rs.length : Int) := by omega
    have c1 := HAT.out kk hlt
    have c0 := HAT.out (kk - 1) (by omega)
    have hR1 := HR.out rs[kk] (List.getElem_mem hlt)
    have hR0 := HR.out (rs[kk - 1]'(by omega)) (List.getElem_mem _)
    obtain ⟨A1, d1, e1, -⟩ := recOK_reads hR1
    obtain ⟨A0, d0, e0, -⟩ := recOK_reads hR0
    have ew := i64_prev (k := kk) hk1 (by omega)
    have ew2 : IntKind.i64.wrap ((kk : Int) + 1) = ((kk + 1 : Nat) : Int) := IntWalk.i64_in _ (by omega)
    have hcall := fun W (hW : Below wr.heap.size wr W) => eqRec (HC2.out.on hW) hR1 hR0
    have hf := HF.out _ (List.getElem?_eq_getElem (by omega))
    rw [List.drop_eq_getElem_cons hlt, cpF] at hf
    go_upto_region 6 with fail
    refine any_tail [some 18, some 19, some 20, some 21, some 22, some 23, some 24, some 25, some 26, some 27, some 28] 66 10 [0, 0, 0, 6, 14, 0, 0, 64, 224, 480, 1023] [VP.eq (.func (.func 94) #[] #[]), VP.eq (.slice (some ⟨blk, 0, none⟩) rs.length cap), VP.eq (.int .i64 kk), VP.eq (.pointer (some ((⟨blk, 0, none⟩ : Addr).add kk))), VP.eq (rs[kk].v), VP.eq (.slice (some ⟨blk, 0, none⟩) rs.length cap), VP.eq (.int .i64 kk), VP.eq (.int .i64 ((kk - 1 : Nat) : Int)), VP.eq (.pointer (some ((⟨blk, 0, none⟩ : Addr).add (kk - 1)))), VP.eq (rs[kk - 1].v)] rfl cmp_tab rfl rfl (by kernel_rfl) rfl ⟨?_, ?_, ?_, ?_, ?_, ?_, ?_, ?_, ?_, ?_, trivial⟩ ?_
    ·intro bq W B hW hB hb hd K hK hK2 hK3; exact gd_step (C := true) wn_ (fun _ => x_move rfl (hb 1)) (hK _ W rfl (Below.refl _ _))
    ·intro bq W B hW hB hb hd K hK hK2 hK3; exact gd_step (C := true) wn_ (fun _ => x_move rfl (hb 0)) (hK _ W rfl (Below.refl _ _))
    ·intro bq W B hW hB hb hd K hK hK2 hK3; exact gd_step (C := true) wn_ (fun _ => x_move rfl (hb 5)) (hK _ W rfl (Below.refl _ _))
    ·intro bq W B hW hB hb hd K hK hK2 hK3; exact gd_step (C := true) wn_ (fun _ => x_ix22 rfl (hd 1 19) (hd 2 20) hlt hmax) (hK _ W rfl (Below.refl _ _))
    ·intro bq W B hW hB hb hd K hK hK2 hK3
     have hx : W.cell? ((⟨blk, 0, none⟩ : Addr).add kk) = some (.slice A1 rs[kk].l.length d1) := by rw [add_zero_off, ← e1]; exact (HC2.out.on ((below_drewN' (Below.refl _ _) _).trans hW)).cell c1
     exact gd_step (C := true) wn_ (fun _ => x_ld37 rfl (hd 3 21) hx) (hK _ W e1.symm (Below.refl _ _))
    ·intro bq W B hW hB hb hd K hK hK2 hK3; exact gd_step (C := true) wn_ (fun _ => x_move rfl (hb 0)) (hK _ W rfl (Below.refl _ _))
    ·intro bq W B hW hB hb hd K hK hK2 hK3; exact gd_step (C := true) wn_ (fun _ => x_move rfl (hb 5)) (hK _ W rfl (Below.refl _ _))
    ·intro bq W B hW hB hb hd K hK hK2 hK3; exact gd_step (C := true) wn_ (fun _ => x_subi rfl (hd 6 24) rfl ew) (hK _ W rfl (Below.refl _ _))
    ·intro bq W B hW hB hb hd K hK hK2 hK3; exact gd_step (C := true) wn_ (fun _ => x_ix22 rfl (hd 5 23) (hd 7 25) (by omega) hmax) (hK _ W rfl (Below.refl _ _))
    ·intro bq W B hW hB hb hd K hK hK2 hK3
     have hx : W.cell? ((⟨blk, 0, none⟩ : Addr).add (kk - 1)) = some (.slice A0 (rs[kk - 1]'(by omega)).l.length d0) := by rw [add_zero_off, ← e0]; exact (HC2.out.on ((below_drewN' (Below.refl _ _) _).trans hW)).cell c0
     exact gd_step (C := true) wn_ (fun _ => x_ld37 rfl (hd 8 26) hx) (hK _ W e0.symm (Below.refl _ _))
    ·intro vals F W B hF hW hBB hV
     have hf18 : vals 18 = .func (.func 94) #[] #[] := hV 0 18 (of_decide_eq_true (by kernel_rfl)) rfl
     have hf22 : vals 22 = rs[kk].v := hV 4 22 (of_decide_eq_true (by kernel_rfl)) rfl
     have hf27 : vals 27 = rs[kk - 1].v := hV 9 27 (of_decide_eq_true (by kernel_rfl)) rfl
     have hWW : Below wr.heap.size wr W := (below_drewN' (Below.refl _ _) _).trans hW
     have hc := hcall W hWW
     have HC3 := Aside0.mk (HC2.out.on hWW)
     rw [hF]
     clear hF hV hBB hW hcall HC2 hWW
     simp only [List.take, fillA, Act.put, List.setIfInBounds_toArray, List.set_cons_zero, List.set_cons_succ, hf18, hf22, hf27]
     clear hf18 hf22 hf27
     refine last_call rfl (x_callv Try.func94 (by kernel_rfl) rfl rfl rfl (args2 rfl rfl)) (hc.mono ?_)
     rintro e w' ⟨rfl, hdr⟩
     have HC4 := Aside0.mk (HC3.out.on hdr.below)
     clear hdr HC3 hc
     refine ⟨_, rfl, ?_⟩
     by_cases he : rs[kk].l = (rs[kk - 1]'(by omega)).l
     ·rw [if_pos he] at hf
      rw [decide_eq_true he]
      have HF2 := Aside0.mk hf
      clear hf HF c1 c0 hR1 hR0 e1 e0 he HC
      obtain ⟨m2, hm2⟩ : ∃ m, rs.length - kk = m := ⟨_, rfl⟩
      obtain ⟨c2, hc2⟩ : ∃ m, cap - kk = m := ⟨_, rfl⟩
      have hcap := HNC.out.1
      have g1 : ¬ cap = kk := by omega
      have g2 : (0 : Int) ≤ (kk : Int) := by omega
      have g3 : (kk : Int) ≤ (rs.length : Int) := by omega
      have g4 : rs.length ≤ cap := by omega
      have g5 := add_zero_off blk kk
      clear hcap
      go_wp2
      go_loopg [5, 7] m2 (fun gg v5 v7 wr2 => ∃ (q k5 : Nat) (ks : List Rec) (C : Array Value), v5 = .int .i64 k5 ∧ v7 = .int .i64 q ∧ 1 ≤ q ∧ q ≤ m2 ∧ m2 - q ≤ gg ∧ k5 + 1 ≤ kk + q ∧ Aside0 (ks.length = k5) ∧ Aside0 (C.toList.take k5 = ks.map (·.v)) ∧ Aside0 (∀ j (hj : j < rs.length), kk + q ≤ j + 1 → C[j]? = some rs[j].v) ∧ Aside0 (∀ p, rs[kk + q - 1]? = some p → cpR rs = ks ++ cpF p (rs.drop (kk + q))) ∧ Aside0 (CW w wr2 base blk cap C))
      case atStart =>
       refine ⟨1, kk, rs.take kk, cur, rfl, rfl, Nat.le_refl _, by omega, by omega, by omega, ⟨by rw [List.length_take]; omega⟩, ⟨?_⟩, ⟨fun j hj _ => HAT.out j hj⟩, ⟨fun p hp => ?_⟩, HC4⟩
       ·have := congrArg (List.take kk) HTK.out
        rw [List.take_take, Nat.min_eq_left hk2] at this
        rw [this, List.map_take]
       ·have hp2 : rs[kk] = p := by rw [Nat.add_sub_cancel, List.getElem?_eq_getElem hlt] at hp; exact Option.some.inj hp
        subst hp2
        rw [HF2.out]
      case round =>
       clear HC4 HF2
       obtain ⟨q, k5, ks, C, rfl, rfl, hq1, hq2, hgk2, hk5, HK, HKT, HCA, HF, HC⟩ := hrel
       have ewq := i64_prev (k := q) hq1 (by omega)
       have ewq2 : IntKind.i64.wrap ((q : Int) + 1) = ((q + 1 : Nat) : Int) := IntWalk.i64_in _ (by omega)
       have ewk2 : IntKind.i64.wrap ((k5 : Int) + 1) = ((k5 + 1 : Nat) : Int) := IntWalk.i64_in _ (by omega)
       by_cases hlq : q < m2
       ·have hlqz : (q : Int) < (m2 : Int) := by omega
        have hjq : kk + q < rs.length := by omega
        have hjp : kk + (q - 1) < rs.length := by omega
        have c1 := HCA.out (kk + q) hjq (by omega)
        have c0 := HCA.out (kk + (q - 1)) hjp (by omega)
        have hR1 := HR.out rs[kk + q] (List.getElem_mem hjq)
        have hR0 := HR.out (rs[kk + (q - 1)]'hjp) (List.getElem_mem _)
        obtain ⟨A1, d1, e1, -⟩ := recOK_reads hR1
        obtain ⟨A0, d0, e0, -⟩ := recOK_reads hR0
        have hcall := fun W (hW : Below wr.heap.size wr W) => eqRec (HC.out.on hW) hR1 hR0
        have hf := HF.out _ (show rs[kk + q - 1]? = some (rs[kk + (q - 1)]'hjp) by rw [show kk + q - 1 = kk + (q - 1) by omega]; exact List.getElem?_eq_getElem hjp)
        rw [List.drop_eq_getElem_cons hjq, cpF] at hf
        go_upto_region 11 with fail
        refine any_tail [some 38, some 39, some 40, some 41, some 42, some 43, some 44, some 45, some 46, some 47, some 48, some 49] 66 10 [0, 0, 0, 6, 14, 0, 0, 64, 224, 480, 1023, 2047] [VP.eq (.func (.func 94) #[] #[]), VP.eq (.slice (some ⟨blk, kk, none⟩) m2 c2), VP.eq (.int .i64 q), VP.eq (.pointer (some ((⟨blk, kk, none⟩ : Addr).add q))), VP.eq (rs[kk + q].v), VP.eq (.slice (some ⟨blk, kk, none⟩) m2 c2), VP.eq (.int .i64 q), VP.eq (.int .i64 ((q - 1 : Nat) : Int)), VP.eq (.pointer (some ((⟨blk, kk, none⟩ : Addr).add (q - 1)))), VP.eq (rs[kk + (q - 1)].v)] rfl cmp_tab2 rfl rfl (by kernel_rfl) rfl ⟨?_, ?_, ?_, ?_, ?_, ?_, ?_, ?_, ?_, ?_, trivial⟩ ?_
        ·intro bq W B hW hB hb hd K hK hK2 hK3; exact gd_step (C := true) wn_ (fun _ => x_move rfl (hb 1)) (hK _ W rfl (Below.refl _ _))
        ·intro bq W B hW hB hb hd K hK hK2 hK3; exact gd_step (C := true) wn_ (fun _ => x_move rfl (hb 6)) (hK _ W rfl (Below.refl _ _))
        ·intro bq W B hW hB hb hd K hK hK2 hK3; exact gd_step (C := true) wn_ (fun _ => x_move rfl (hb 7)) (hK _ W rfl (Below.refl _ _))
        ·intro bq W B hW hB hb hd K hK hK2 hK3; exact gd_step (C := true) wn_ (fun _ => x_ix22 rfl (hd 1 39) (hd 2 40) hlq (by omega)) (hK _ W rfl (Below.refl _ _))
        ·intro bq W B hW hB hb hd K hK hK2 hK3
         have hx : W.cell? ((⟨blk, kk, none⟩ : Addr).add q) = some (.slice A1 rs[kk + q].l.length d1) := by rw [add_off, ← e1]; exact (HC.out.on ((below_drewN' (Below.refl _ _) _).trans hW)).cell c1
         exact gd_step (C := true) wn_ (fun _ => x_ld37 rfl (hd 3 41) hx) (hK _ W e1.symm (Below.refl _ _))
        ·intro bq W B hW hB hb hd K hK hK2 hK3; exact gd_step (C := true) wn_ (fun _ => x_move rfl (hb 6)) (hK _ W rfl (Below.refl _ _))
        ·intro bq W B hW hB hb hd K hK hK2 hK3; exact gd_step (C := true) wn_ (fun _ => x_move rfl (hb 7)) (hK _ W rfl (Below.refl _ _))
        ·intro bq W B hW hB hb hd K hK hK2 hK3; exact gd_step (C := true) wn_ (fun _ => x_subi rfl (hd 6 44) rfl ewq) (hK _ W rfl (Below.refl _ _))
        ·intro bq W B hW hB hb hd K hK hK2 hK3; exact gd_step (C := true) wn_ (fun _ => x_ix22 rfl (hd 5 43) (hd 7 45) (by omega) (by omega)) (hK _ W rfl (Below.refl _ _))
        ·intro bq W B hW hB hb hd K hK hK2 hK3
         have hx : W.cell? ((⟨blk, kk, none⟩ : Addr).add (q - 1)) = some (.slice A0 (rs[kk + (q - 1)]'hjp).l.length d0) := by rw [add_off, ← e0]; exact (HC.out.on ((below_drewN' (Below.refl _ _) _).trans hW)).cell c0
         exact gd_step (C := true) wn_ (fun _ => x_ld37 rfl (hd 8 46) hx) (hK _ W e0.symm (Below.refl _ _))
        ·intro vals F W B hF hW hBB hV
         have hf38 : vals 38 = .func (.func 94) #[] #[] := hV 0 38 (of_decide_eq_true (by kernel_rfl)) rfl
         have hf42 : vals 42 = rs[kk + q].v := hV 4 42 (of_decide_eq_true (by kernel_rfl)) rfl
         have hf47 : vals 47 = rs[kk + (q - 1)].v := hV 9 47 (of_decide_eq_true (by kernel_rfl)) rfl
         have hWW : Below wr.heap.size wr W := (below_drewN' (Below.refl _ _) _).trans hW
         have hc := hcall W hWW
         have HC3 := Aside0.mk (HC.out.on hWW)
         rw [hF]
         clear hF hV hBB hW hcall HC hWW
         simp only [List.take, fillA, Act.put, List.setIfInBounds_toArray, List.set_cons_zero, List.set_cons_succ, hf38, hf42, hf47]
         clear hf38 hf42 hf47
         refine last_call rfl (x_callv Try.func94 (by kernel_rfl) rfl rfl rfl (args2 rfl rfl)) (hc.mono ?_)
         rintro e w' ⟨rfl, hdr⟩
         have HC4 := Aside0.mk (HC3.out.on hdr.below)
         clear hdr HC3 hc
         refine ⟨_, rfl, ?_⟩
         by_cases he : rs[kk + q].l = (rs[kk + (q - 1)]'hjp).l
         ·rw [if_pos he] at hf
          rw [decide_eq_true he]
          have HF2 := Aside0.mk hf
          clear hf HF c1 c0 hR1 hR0 e1 e0 he g1 g2 g3 g4 g5
          go_wp2
          go_roundg (gk - 1)
          case measure => omega
          case rel =>
           refine ⟨q + 1, k5, ks, C, rfl, rfl, by omega, by omega, by omega, by omega, HK, HKT, ⟨fun j hj h => HCA.out j hj (by omega)⟩, ⟨fun p hp => ?_⟩, HC4⟩
           have hp2 : rs[kk + q] = p := by rw [show kk + (q + 1) - 1 = kk + q by omega, List.getElem?_eq_getElem hjq] at hp; exact Option.some.inj hp
           subst hp2
           rw [HF2.out]
           rfl
         ·rw [if_neg he] at hf
          rw [decide_eq_false he]
          have HF2 := Aside0.mk hf
          have HE1 := Aside0.mk e1
          clear hf HF c0 hR1 hR0 e0 he g1 g2 g3 g4 g5
          have hsz := HC4.out.size
          have hcp := HNC.out.1
          have hk5l : k5 < C.size := by omega
          have y1 := HC4.out.cell c1
          have y0 := HC4.out.cell (show C[k5]? = some C[k5] from Array.getElem?_eq_getElem hk5l)
          have z0 := frozen_at_heap HC4.out.cells k5
          rw [e1] at y1
          have s1 : (k5 : Int) < (rs.length : Int) := by omega
          have s2 : (0 : Int) ≤ (k5 : Int) := by omega
          have s3 : (0 : Int) ≤ (q : Int) := by omega
          have s4 := add_zero_off blk k5
          have s5 := add_off blk kk q
          generalize C[k5] = u0 at y0
          clear e1 hsz hcp hk5l c1
          go_wp2
          clear y1 y0 z0 s1 s2 s3 s4 s5
          go_roundg (gk - 1)
          case measure => omega
          case rel =>
           refine ⟨q + 1, k5 + 1, ks ++ [rs[kk + q]], C.setIfInBounds k5 rs[kk + q].v, rfl, rfl, by omega, by omega, by omega, by omega, ⟨by rw [List.length_append, HK.out]; rfl⟩, ⟨?_⟩, ⟨fun j hj h => ?_⟩, ⟨fun p hp => ?_⟩, ?_⟩
           ·have hsz := HC4.out.size
            have hcp := HNC.out.1
            have h1 : k5 < C.toList.length := by rw [Array.length_toList]; omega
            rw [Array.toList_setIfInBounds, List.take_succ_eq_append_getElem (by rw [List.length_set]; exact h1), List.take_set_of_le (Nat.le_refl _), HKT.out, List.map_append, List.getElem_set_self]
            rfl
           ·rw [Array.getElem?_setIfInBounds, if_neg (by omega)]
            exact HCA.out j hj (by omega)
           ·have hp2 : rs[kk + q] = p := by rw [show kk + (q + 1) - 1 = kk + q by omega, List.getElem?_eq_getElem hjq] at hp; exact Option.some.inj hp
            subst hp2
            rw [HF2.out, List.append_assoc]
            rfl
           ·rw [HE1.out]
            exact ⟨HC4.out.put k5 _⟩
       ·obtain rfl : q = m2 := by omega
        have hlast : kk + q - 1 < rs.length := by omega
        have hf := HF.out _ (List.getElem?_eq_getElem hlast)
        rw [List.drop_of_length_le (by omega), cpF, List.append_nil] at hf
        have hclr : ∀ ty, (Builtin.clear_ #[22] ty #[.slice (some ⟨blk, k5, none⟩) (rs.length - k5) (cap - k5)]).run Try.prog wr = .ok (.tuple #[]) (wr.setCells blk k5 (List.replicate (rs.length - k5) (.slice none 0 0))) := by
         intro ty
         obtain ⟨i0, hi, hzz⟩ := Option.map_eq_some_iff.1 info37
         simp only [Prod.mk.injEq] at hzz
         obtain ⟨hz, hsize, hby⟩ := hzz
         have hsz := HC.out.size
         have hcp := HNC.out.1
         exact Lib.run_clear_slice (P := Try.prog) wr 22 37 ty (.slice none 0 0) Try.underlying22 (fun W => by simp [zeroValue, typeInfo, hi, hz]) rfl rfl blk k5 (rs.length - k5) (cap - k5) (by omega)
          (fun j hj => by
           have : k5 + j < C.size := by omega
           rw [cell_at_heap HC.out.cells, Array.getElem?_eq_getElem this]
           rfl)
          (fun j hj => frozen_at_heap HC.out.cells _)
        have HF2 := Aside0.mk hf
        have hk5r : k5 < rs.length := by omega
        obtain ⟨C', hC', htk'⟩ := HC.out.clear k5 (rs.length - k5) (.slice none 0 0) (by have := HC.out.size; have := HNC.out.1; omega)
        have HC9 := Aside0.mk (And.intro hC' htk')
        have g6 : k5 ≤ cap := by omega
        have g7 : ¬ cap = k5 := by omega
        have g8 : (0 : Int) ≤ (k5 : Int) := by omega
        have g9 : (k5 : Int) ≤ (rs.length : Int) := by omega
        have g10 : (k5 : Int) ≤ (cap : Int) := by omega
        have g11 := add_zero_off blk k5
        generalize wr.setCells blk k5 (List.replicate (rs.length - k5) (.slice none 0 0)) = w9 at hclr HC9
        obtain ⟨m9, hm9⟩ : ∃ m, rs.length - k5 = m := ⟨_, rfl⟩
        obtain ⟨c9, hc9⟩ : ∃ m, cap - k5 = m := ⟨_, rfl⟩
        rw [hm9, hc9] at hclr
        clear hf HF hC' htk' g1 g2 g3 g4 g5
        have hcl0 := hclr 0
        clear hclr
        go_wp2
        go_ret
        refine ⟨_, rfl, ?_, HC9.out.1.below, fun k hk hne => HC9.out.1.keep k hk (fun e => hne (by rw [e]; rfl)), fun _ hk => hk⟩
        have hks := HK.out
        have hd := HC9.out.1.done (f := f) (ks := ks) (by rw [← HF2.out]; exact cpR_sub rs) HT.out HR.out (by rw [hks, HC9.out.2, HKT.out]) (by omega) HNC.out.2 H0.out
        rw [hks] at hd
        rw [← HL.out, ← cpR_map, HF2.out]
        exact hd
     ·rw [if_neg he] at hf
      rw [decide_eq_false he]
      have HF2 := Aside0.mk hf
      clear hf HF c1 c0 hR1 hR0 e1 e0 he
      go_wp2
      go_roundg (gk - 1)
      case measure => omega
      case rel =>
       refine ⟨kk + 1, rfl, by omega, by omega, by omega, ⟨fun p hp => ?_⟩, HC4⟩
       have hp2 : rs[kk] = p := by rw [Nat.add_sub_cancel, List.getElem?_eq_getElem hlt] at hp; exact Option.some.inj hp
       subst hp2
       rw [HF2.out, List.take_succ_eq_append_getElem hlt, List.append_assoc]
       rfl
   ·obtain rfl : kk = rs.length := by omega
    have hf := HF.out _ (List.getElem?_eq_getElem (by omega : rs.length - 1 < rs.length))
    rw [List.take_length, List.drop_length, cpF, List.append_nil] at hf
    have HF2 := Aside0.mk hf
    clear hf HF
    go_wp2
    go_ret
    refine ⟨_, rfl, ?_, HC2.out.below, fun k hk hne => HC2.out.keep k hk (fun e => hne (by rw [e]; rfl)), fun _ hk => hk⟩
    have hd := HC2.out.done (List.Sublist.refl rs) HT.out HR.out HTK.out HNC.out.1 HNC.out.2 H0.out
    rw [← HL.out, ← cpR_map, HF2.out]
    exact hd
end Go.Proofs.Ytelfahcjeldliaa.PFnExactNormalCnf
end
