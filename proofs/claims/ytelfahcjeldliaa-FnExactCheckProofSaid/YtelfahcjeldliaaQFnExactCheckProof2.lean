/- FnExactCheckProof: for every input the law returns true. The texts that this program's session printed and proved for it, those that the proof uses, laid together. Conditions: the form's own reach alone. -/
import Derived.Test.YtelfahcjeldliaaQFnExactCheckProof1
section
namespace Go.Proofs.Ytelfahcjeldliaa.PFnExactCheckProof
open Go.RowKit Go.Proofs.YtelfahcjeldliaaW.PrintWords Go.Proofs.YtelfahcjeldliaaW.PrintLast Go.Proofs.YtelfahcjeldliaaW.PrintMore
attribute [local go_sem] max2_int min2_int max_two min_two max_three min_three max_four min_four   -- for this text's walks alone
set_option linter.unusedVariables false
set_option linter.unusedSimpArgs false
def so6_T : Bool × List (List Nat × List Nat) := (true, [([], []), ([], []), ([1], [1]), ([0, 2], [0, 2]), ([3], [3]), ([4], [4]), ([4], [4]), ([5, 6, 4], [4, 5, 6]), ([7, 4], [4, 7]), ([4], [4]), ([4], [4]), ([9, 10, 4], [4, 9, 10]), ([11, 4], [4, 11]), ([8, 12, 4, 4], [4, 8, 12]), ([4, 13], [4, 13])])
def so6_B : List Nat := [0, 0, 2, 7, 15, 31, 31, 127, 255, 31, 31, 1567, 3615, 8191, 16383]
theorem so6_tab : rtab .any (opsOf Try.f82 6) = so6_T := by kernel_rfl
theorem so6_bits : waitsOk so6_T.2 so6_B = true := by kernel_rfl
def so8_T : Bool × List (List Nat × List Nat) := (true, [([], []), ([], []), ([1], [1]), ([0, 2], [0, 2]), ([3], [3]), ([4], [4]), ([4], [4]), ([5, 6, 4], [4, 5, 6]), ([7, 4], [4, 7]), ([4], [4]), ([4], [4]), ([9, 10, 4], [4, 9, 10]), ([11, 4], [4, 11]), ([8, 12, 4], [4, 8, 12]), ([4, 13], [4, 13])])
def so8_B : List Nat := [0, 0, 2, 7, 15, 31, 31, 127, 255, 31, 31, 1567, 3615, 8191, 16383]
theorem so8_tab : rtab .any (opsOf Try.f82 8) = so8_T := by kernel_rfl
theorem so8_bits : waitsOk so8_T.2 so8_B = true := by kernel_rfl
def so9_T : Bool × List (List Nat × List Nat) := (true, [([], []), ([], []), ([], []), ([1, 2], [1, 2]), ([0, 3], [0, 3]), ([], []), ([], []), ([5, 6], [5, 6]), ([7], [7]), ([8], [8]), ([4, 9, 4], [4, 9]), ([], []), ([], []), ([11, 12], [11, 12]), ([10, 13, 10], [10, 13]), ([14, 14, 0, 1, 2, 3, 4, 5, 6, 7, 8, 9, 10, 11, 12, 13, 14], [1, 11, 14])])
def so9_B : List Nat := [0, 0, 0, 6, 15, 0, 0, 96, 224, 480, 1023, 0, 0, 6144, 16383, 32767]
theorem so9_tab : rtab .any (opsOf Try.f82 9) = so9_T := by kernel_rfl
theorem so9_bits : waitsOk so9_T.2 so9_B = true := by kernel_rfl
def so13_T : Bool × List (List Nat × List Nat) := (true, [([], []), ([], []), ([1], [1]), ([0, 2], [0, 2]), ([3], [3]), ([], []), ([], []), ([5, 6], [5, 6]), ([7], [7]), ([8], [8]), ([4, 9], [4, 9])])
def so13_B : List Nat := [0, 0, 2, 7, 15, 0, 0, 96, 224, 480, 1023]
theorem so13_tab : rtab .any (opsOf Try.f82 13) = so13_T := by kernel_rfl
theorem so13_bits : waitsOk so13_T.2 so13_B = true := by kernel_rfl
theorem R_ctake {e base c jj : Nat} {ok : Nat → Prop} {A : Option Addr} {W : World} {ys : List Int} (h : Kd.R (Kd.int .i64) e W base ok (.slice A ys.length c) ys) (hj : jj ≤ ys.length) : Kd.C (Kd.int .i64) W A jj (ys.take jj) := by
 have q := Kd.C_take (Kd.R_reads' h).2.2 hj
 rwa [List.length_take, Nat.min_eq_left hj] at q
theorem R_cdrop {e base c jj : Nat} {ok : Nat → Prop} {ad : Addr} {W : World} {ys : List Int} (h : Kd.R (Kd.int .i64) e W base ok (.slice (some ad) ys.length c) ys) (hj : jj ≤ ys.length) (hc : ys.length ≤ c) : Kd.C (Kd.int .i64) W (if c = jj then some ad else some (ad.add jj)) (ys.length - jj) (ys.drop jj) := by
 have q := Kd.C_drop (Kd.R_reads' h).2.2 hj hc
 rw [List.length_drop, show jj * (Kd.int .i64).sz = jj from Nat.mul_one jj] at q
 exact q
theorem R_cap {e base c n : Nat} {ok : Nat → Prop} {A : Option Addr} {W : World} {ys : List Int} (h : Kd.R (Kd.int .i64) e W base ok (.slice A n c) ys) : n ≤ c := (Kd.R_reads' h).2.1
theorem abs_is {a : Int} (ha : inR a) : spec_l01Abs.f a = some (if a < 0 then -a else a) := by
 obtain ⟨h1, h2⟩ := ha
 have e : wrap64 (-a) = -a := IntWalk.wrap64_in _ ⟨by omega, by omega⟩
 unfold spec_l01Abs.f
 rw [e]
 unfold mx
 congr 1
 split <;> split <;> omega
theorem before_is {a b : Int} (ha : inR a) (hb : inR b) : spec_l01Before.f a b = some (decide (rk a < rk b)) := by
 unfold spec_l01Before.f
 simp only [abs_is ha, abs_is hb, Option.bind_some]
 unfold rk
 by_cases h1 : a < 0 <;> by_cases h2 : b < 0 <;> simp only [h1, h2, if_true, if_false] <;> split <;> (congr 1; apply decide_eq_decide.2; omega)
def spec_l01Sorted.f (l : List Int) : Option (List Int × Bool) := if l.length ≤ 4096 ∧ ∀ x ∈ l, inR x then some (insAll l [], !(oppB (insAll l []))) else none
set_option maxHeartbeats 8000000 in
set_option maxRecDepth 100000 in
theorem spec_l01Sorted.calls (A0 : Option Addr) (c0 : Nat) (l0 : List Int) (r1 : List Int) (r2 : Bool) (w : World) (hr0 : Kd.C (Kd.int .i64) w A0 l0.length l0) (hc0 : l0.length ≤ c0) (h : spec_l01Sorted.f l0 = some (r1, r2)) :
  Calls Try.prog 82 #[.slice A0 l0.length c0] w fun e w' => ∃ v0_ : Value, e = .returned (.tuple #[v0_, .bool r2]) ∧ Kd.R (Kd.int .i64) 3 w' w.heap.size (fun _ => True) v0_ r1 ∧ Below w.heap.size w w' := by
 unfold spec_l01Sorted.f at h
 by_cases hg : l0.length ≤ 4096 ∧ ∀ x ∈ l0, inR x
 rotate_left
 ·rw [if_neg hg] at h
  cases h
 rw [if_pos hg] at h
 obtain ⟨hlen, hin⟩ := hg
 obtain ⟨rfl, h2⟩ := Prod.mk.inj (Option.some.inj h)
 clear h
 obtain ⟨res, hres⟩ : ∃ res, insAll l0 [] = res := ⟨_, rfl⟩
 rw [hres] at h2 ⊢
 have HRES : Aside0 (insAll (l0.drop 0) [] = res) := ⟨hres⟩
 have H2 := Aside0.mk h2
 have HA := Aside0.mk hr0
 have HIN := Aside0.mk hin
 clear hres h2 hr0 hin
 go_enter Try.func82, Try.ntmps82
 go_upto_region 2 with (first | ((with_reducible refine gate_dst (N := 8) rfl ?_); refine Kd.R_lit (Kd.int .i64) w.heap.size 3 rfl (N := 8) rfl (xs := ([] : List Int)) (inner := []) (ok := fun _ => True) (okp := fun _ => False) (by go_simp; done) (Reps.none _ _) (fun _ hk => hk.elim) trivial (Below.refl _ _) (Nat.le_refl _) (by simp) ?_; intro v4 wA hr hb_ hg_ hat_; have HO := Aside0.mk hr; have HB := Aside0.mk hb_; have HAT := Aside0.mk hat_; clear hr hb_ hg_ hat_))
 obtain ⟨A4, c4, e4⟩ := Kd.R_slice HO.out
 subst e4
 obtain ⟨ad4, rfl⟩ : ∃ ad4, A4 = some ad4 := by
  cases A4 with
  | none => obtain ⟨b_, h_, -⟩ := HAT.out; cases h_
  | some a_ => exact ⟨a_, rfl⟩
 clear HAT
 go_wp2
 go_loopg [4, 5] l0.length (fun gg v4 v5 wr => ∃ (kk : Nat) (ad : Addr) (c : Nat) (ys : List Int), v5 = .int .i64 kk ∧ kk ≤ l0.length ∧ l0.length - kk ≤ gg ∧ v4 = .slice (some ad) ys.length c ∧ ys.length ≤ kk ∧ Aside0 (∀ x ∈ ys, inR x) ∧ Aside0 (insAll (l0.drop kk) ys = res) ∧ Aside0 (Kd.R (Kd.int .i64) 3 wr w.heap.size (fun _ => True) (.slice (some ad) ys.length c) ys) ∧ Aside0 (Below w.heap.size w wr))
 case atStart => exact ⟨0, ad4, c4, [], rfl, Nat.zero_le _, by omega, rfl, Nat.le_refl _, ⟨fun _ h_ => by cases h_⟩, HRES, HO, HB⟩
 case round =>
  clear HRES HO HB
  obtain ⟨kk, ad, c, ys, rfl, hkk, hg, rfl, hyl, HYI, HRES, HO, HB⟩ := hrel
  by_cases hlt : kk < l0.length
  ·have hltz : (kk : Int) < (l0.length : Int) := by omega
   have hkc0 : (0 : Int) ≤ (kk : Int) := Int.natCast_nonneg _
   have ewk : IntKind.i64.wrap ((kk : Int) + 1) = ((kk + 1 : Nat) : Int) := IntWalk.i64_in _ ⟨by omega, by omega⟩
   obtain ⟨adc, ea, hx0⟩ := Kd.at_int HA.out (kk : Int) hkc0 hltz
   subst ea
   rw [Int.toNat_natCast] at hx0
   have hrd : rd l0 (kk : Int) = l0[kk] := by unfold rd; simp [List.getD, hlt]
   have hRES := HRES.out
   rw [List.drop_eq_getElem_cons hlt, insAll, ← hrd] at hRES
   have hxi : inR l0[kk] := HIN.out _ (List.getElem_mem hlt)
   rw [← hrd] at hxi
   clear HRES hrd
   generalize rd l0 (kk : Int) = x at hx0 hRES hxi
   have HXI := Aside0.mk hxi
   have HRES := Aside0.mk hRES
   clear hxi hRES
   have HJ0 : Aside0 (0 + cntB x (ys.drop 0) = cntB x ys) := ⟨Nat.zero_add _⟩
   go_wp2
   go_loopg [6] ys.length (fun gg2 v6 wr2 => ∃ jj : Nat, v6 = .int .i64 jj ∧ jj ≤ ys.length ∧ ys.length - jj ≤ gg2 ∧ Aside0 (jj + cntB x (ys.drop jj) = cntB x ys) ∧ Aside0 (Kd.R (Kd.int .i64) 3 wr2 w.heap.size (fun _ => True) (.slice (some ad) ys.length c) ys) ∧ Aside0 (Below w.heap.size w wr2))
   case atStart => exact ⟨0, rfl, Nat.zero_le _, by omega, HJ0, HO, HB⟩
   case round =>
    clear HJ0 HO HB
    obtain ⟨jj, rfl, hjj, hg2, HJ, HO, HB⟩ := hrel
    by_cases hjl : jj < ys.length
    ·have hjz : (jj : Int) < (ys.length : Int) := by omega
     have hj0 : (0 : Int) ≤ (jj : Int) := Int.natCast_nonneg _
     have ewj : IntKind.i64.wrap ((jj : Int) + 1) = ((jj + 1 : Nat) : Int) := IntWalk.i64_in _ ⟨by omega, by omega⟩
     have hCy := (Kd.R_reads' HO.out).2.2
     obtain ⟨ad_, ea_, hy⟩ := Kd.at_int hCy (jj : Int) hj0 hjz
     obtain rfl := Option.some.inj ea_
     clear ea_ hCy
     rw [Int.toNat_natCast] at hy
     have hrdy : rd ys (jj : Int) = ys[jj] := by unfold rd; simp [List.getD, hjl]
     have hyi : inR ys[jj] := HYI.out _ (List.getElem_mem hjl)
     have hbf := before_is hyi HXI.out
     have hst := @cntB_step x ys jj hjl
     have hsp := @cntB_stop x ys jj hjl
     rw [← hrdy] at hbf hst hsp
     clear hrdy hyi
     generalize rd ys (jj : Int) = y at hy hbf hst hsp
     have hx := (HB.out.cell (World.block_lt_of_cell? w _ hx0)).trans hx0
     obtain ⟨b, hb6⟩ : ∃ b, decide (rk y < rk x) = b := ⟨_, rfl⟩
     rw [hb6] at hbf
     replace hbf := Aside0.mk hbf
     have HX0 := Aside0.mk hx0
     clear hx0
     go_upto_region 6 with fail
     have hbdc : ∀ p v, wr.cell? p = some v → wr.drew.cell? p = some v := fun p v h => h
     have hbd := below_drew (Below.refl wr.heap.size wr)
     replace HO := Aside0.mk (Kd.R_below HO.out hbd)
     replace HB := Aside0.mk (HB.out.trans (hbd.mono HB.out.size))
     clear hbd
     replace hy := hbdc _ _ hy
     replace hx := hbdc _ _ hx
     clear hbdc
     generalize hw9 : wr.drew = w20 at *
     refine start_ (n := 15) (S := fun w' => w'.cell? (ad.add jj) = some (.int .i64 y) ∧ w'.cell? (adc.add kk) = some (.int .i64 x)) (ds := []) #[false, false, false, false, false, false, false, false, false, false, false, false, false, false, false] (by kernel_rfl) rfl rfl (by rw [hw9]; exact ⟨hy, hx⟩) (fun hHeld => ?_)
     refine with_tabW so6_tab so6_bits (fun HT_ HW_ => ?_)
     rw [hw9] at hHeld ⊢
     clear hw9
     refine pure_ (i := 0) (N := some 15) (v := ?_) (a' := ?_) #[true, false, false, false, false, false, false, false, false, false, false, false, false, false, false] rfl rfl (any_of HT_.out (by kernel_rfl)) (fun _ _ _ h => h) (Or.inl ⟨by rfl, ?_⟩) ?_ ?_
     rotate_left
     ·intro w'
      go_simp
      with_reducible rfl
     rotate_left
     ·simp only [Act.put, List.setIfInBounds_toArray, List.set_cons_zero, List.set_cons_succ, i64_w, i32_w]
      rfl
     refine pure_ (i := 1) (N := some 16) (v := ?_) (a' := ?_) #[true, true, false, false, false, false, false, false, false, false, false, false, false, false, false] rfl rfl (any_of HT_.out (by kernel_rfl)) (fun _ _ _ h => h) (Or.inl ⟨by rfl, ?_⟩) ?_ ?_
     rotate_left
     ·intro w'
      go_simp
      with_reducible rfl
     rotate_left
     ·simp only [Act.put, List.setIfInBounds_toArray, List.set_cons_zero, List.set_cons_succ, i64_w, i32_w]
      rfl
     refine pure_ (i := 2) (N := some 17) (v := ?_) (a' := ?_) #[true, true, true, false, false, false, false, false, false, false, false, false, false, false, false] rfl rfl (any_of HT_.out (by kernel_rfl)) (fun _ _ _ h => h) (Or.inl ⟨by rfl, ?_⟩) ?_ ?_
     rotate_left
     ·intro w'
      go_simp
      with_reducible rfl
     rotate_left
     ·simp only [Act.put, List.setIfInBounds_toArray, List.set_cons_zero, List.set_cons_succ, i64_w, i32_w]
      rfl
     refine pure_ (i := 3) (N := some 18) (v := ?_) (a' := ?_) #[true, true, true, true, false, false, false, false, false, false, false, false, false, false, false] rfl rfl (any_of HT_.out (by kernel_rfl)) (fun _ _ _ h => h) (Or.inl ⟨by rfl, ?_⟩) ?_ ?_
     rotate_left
     ·intro w'
      go_simp
      with_reducible rfl
     rotate_left
     ·simp only [Act.put, List.setIfInBounds_toArray, List.set_cons_zero, List.set_cons_succ, i64_w, i32_w]
      rfl
     refine pure_ (i := 4) (N := some 19) (v := ?_) (a' := ?_) #[true, true, true, true, true, false, false, false, false, false, false, false, false, false, false] rfl rfl (any_of HT_.out (by kernel_rfl)) (fun _ _ _ h => h) (Or.inl ⟨by rfl, ?_⟩) ?_ ?_
     rotate_left
     ·intro w'
      go_simp
      with_reducible rfl
     rotate_left
     ·simp only [Act.put, List.setIfInBounds_toArray, List.set_cons_zero, List.set_cons_succ, i64_w, i32_w]
      rfl
     refine pure_ (i := 5) (N := some 20) (v := ?_) (a' := ?_) #[true, true, true, true, true, true, false, false, false, false, false, false, false, false, false] rfl rfl (any_of HT_.out (by kernel_rfl)) (fun _ _ _ h => h) (Or.inl ⟨by rfl, ?_⟩) ?_ ?_
     rotate_left
     ·intro w'
      go_simp
      with_reducible rfl
     rotate_left
     ·simp only [Act.put, List.setIfInBounds_toArray, List.set_cons_zero, List.set_cons_succ, i64_w, i32_w]
      rfl
     refine pure_ (i := 6) (N := some 21) (v := ?_) (a' := ?_) #[true, true, true, true, true, true, true, false, false, false, false, false, false, false, false] rfl rfl (any_of HT_.out (by kernel_rfl)) (fun _ _ _ h => h) (Or.inl ⟨by rfl, ?_⟩) ?_ ?_
     rotate_left
     ·intro w'
      go_simp
      with_reducible rfl
     rotate_left
     ·simp only [Act.put, List.setIfInBounds_toArray, List.set_cons_zero, List.set_cons_succ, i64_w, i32_w]
      rfl
     refine pure_ (i := 7) (N := some 22) (v := ?_) (a' := ?_) #[true, true, true, true, true, true, true, true, false, false, false, false, false, false, false] rfl rfl (any_of HT_.out (by kernel_rfl)) (fun _ _ _ h => h) (Or.inl ⟨by rfl, ?_⟩) ?_ ?_
     rotate_left
     ·intro w'
      go_simp
      with_reducible rfl
     rotate_left
     ·simp only [Act.put, List.setIfInBounds_toArray, List.set_cons_zero, List.set_cons_succ, i64_w, i32_w]
      rfl
     refine pure_ (i := 9) (N := some 24) (v := ?_) (a' := ?_) #[true, true, true, true, true, true, true, true, false, true, false, false, false, false, false] rfl rfl (any_of HT_.out (by kernel_rfl)) (fun _ _ _ h => h) (Or.inl ⟨by rfl, ?_⟩) ?_ ?_
     rotate_left
     ·intro w'
      go_simp
      with_reducible rfl
     rotate_left
     ·simp only [Act.put, List.setIfInBounds_toArray, List.set_cons_zero, List.set_cons_succ, i64_w, i32_w]
      rfl
     refine pure_ (i := 10) (N := some 25) (v := ?_) (a' := ?_) #[true, true, true, true, true, true, true, true, false, true, true, false, false, false, false] rfl rfl (any_of HT_.out (by kernel_rfl)) (fun _ _ _ h => h) (Or.inl ⟨by rfl, ?_⟩) ?_ ?_
     rotate_left
     ·intro w'
      go_simp
      with_reducible rfl
     rotate_left
     ·simp only [Act.put, List.setIfInBounds_toArray, List.set_cons_zero, List.set_cons_succ, i64_w, i32_w]
      rfl
     refine pure_ (i := 11) (N := some 26) (v := ?_) (a' := ?_) #[true, true, true, true, true, true, true, true, false, true, true, true, false, false, false] rfl rfl (any_of HT_.out (by kernel_rfl)) (fun _ _ _ h => h) (Or.inl ⟨by rfl, ?_⟩) ?_ ?_
     rotate_left
     ·intro w'
      go_simp
      with_reducible rfl
     rotate_left
     ·simp only [Act.put, List.setIfInBounds_toArray, List.set_cons_zero, List.set_cons_succ, i64_w, i32_w]
      rfl
     refine take_ (i := 8) (N := some 23) (v := ?_) (a' := ?_) #[true, true, true, true, true, true, true, true, true, true, true, true, false, false, false] rfl rfl (take_ofW HT_.out HW_.out (by kernel_rfl)) (fun _ _ _ h => h) (Or.inl ⟨by rfl, ?_⟩) hHeld ?_ ?_
     rotate_left
     ·rintro w' ⟨s0, s1⟩
      go_simp
      with_reducible rfl
     rotate_left
     ·simp only [Act.put, List.setIfInBounds_toArray, List.set_cons_zero, List.set_cons_succ, i64_w, i32_w]
      rfl
     refine take_ (i := 12) (N := some 27) (v := ?_) (a' := ?_) #[true, true, true, true, true, true, true, true, true, true, true, true, true, false, false] rfl rfl (take_ofW HT_.out HW_.out (by kernel_rfl)) (fun _ _ _ h => h) (Or.inl ⟨by rfl, ?_⟩) hHeld ?_ ?_
     rotate_left
     ·rintro w' ⟨s0, s1⟩
      go_simp
      with_reducible rfl
     rotate_left
     ·simp only [Act.put, List.setIfInBounds_toArray, List.set_cons_zero, List.set_cons_succ, i64_w, i32_w]
      rfl
     refine one_ (i := 13) (N := some 28) #[true, true, true, true, true, true, true, true, true, true, true, true, true, true, false] rfl rfl (one_of HT_.out (by kernel_rfl)) (by decide) (fun K hK => ?_)
     refine call_ 111 #[.int .i64 y, .int .i64 x] (by rfl) rfl ?q6_hrun13 ?q6_h13
     case q6_hrun13 =>
      have he := enters_of Try.func111 (by kernel_rfl) rfl
      unfold execOp
      simp [resolve, Deferred.ofValue, invoke, Act.eval, he]
     refine (spec_l01Before.calls y x _ _ hbf.out).mono ?_
     rintro e wv ⟨rfl, hb⟩
     refine ⟨_, rfl, ?_⟩
     replace HO := Aside0.mk (Kd.R_below HO.out hb)
     replace HB := Aside0.mk (HB.out.trans (hb.mono HB.out.size))
     have hy2 := (hb.cell (World.block_lt_of_cell? _ _ hHeld.1)).trans hHeld.1
     have hx2 := (hb.cell (World.block_lt_of_cell? _ _ hHeld.2)).trans hHeld.2
     clear hb hHeld
     refine hK.out _ _ ⟨hy2, hx2⟩ (fun hHeld => ?_)
     clear hy2 hx2
     clear hK K
     refine norm_ (a' := ?_) ?_ ?_
     rotate_left
     ·show Act.put _ (some 28) _ = _
      simp only [Act.put, List.setIfInBounds_toArray, List.set_cons_zero, List.set_cons_succ, i64_w, i32_w]
      rfl
     refine pure_ (i := 14) (N := some 29) (v := ?_) (a' := ?_) #[true, true, true, true, true, true, true, true, true, true, true, true, true, true, true] rfl rfl (any_of HT_.out (by kernel_rfl)) (fun _ _ _ h => h) (Or.inl ⟨by rfl, ?_⟩) ?_ ?_
     rotate_left
     ·intro w'
      go_simp
      with_reducible rfl
     rotate_left
     ·simp only [Act.put, List.setIfInBounds_toArray, List.set_cons_zero, List.set_cons_succ, i64_w, i32_w]
      rfl
     refine done_ (done_of HT_.out (by kernel_rfl)) ?_
     clear hHeld HT_ HW_
     have hx0 := HX0.out
     clear HX0 hbf
     cases b with
     | true =>
      have hJ := HJ.out
      rw [hst (of_decide_eq_true hb6)] at hJ
      have HJ2 := Aside0.mk hJ
      clear hJ HJ hst hsp hb6
      go_wp2
      go_roundg (ys.length - (jj + 1))
      case measure => omega
      case rel => exact ⟨jj + 1, by go_num, by omega, by omega, HJ2, HO, HB⟩
     | false =>
      have hJ := HJ.out
      rw [hsp (of_decide_eq_false hb6), Nat.add_zero] at hJ
      clear HJ hst hsp hb6
      have HX0 := Aside0.mk hx0
      have HJ := Aside0.mk hJ
      clear hx0 hJ
      go_upto_region 8 with fail
      have hx0 := HX0.out
      clear HX0
      obtain ⟨wr3, hwr3⟩ : ∃ z : World, z = wv := ⟨_, rfl⟩
      subst hwr3
      have hCy := (Kd.R_reads' HO.out).2.2
      obtain ⟨ad_, ea_, hy⟩ := Kd.at_int hCy (jj : Int) hj0 hjz
      obtain rfl := Option.some.inj ea_
      clear ea_ hCy
      rw [Int.toNat_natCast] at hy
      have hrdy : rd ys (jj : Int) = ys[jj] := by unfold rd; simp [List.getD, hjl]
      have hg8 : ys[cntB x ys]? = some (rd ys (jj : Int)) := by rw [← HJ.out, hrdy]; exact List.getElem?_eq_getElem hjl
      clear hrdy
      generalize rd ys (jj : Int) = y2 at hy hg8
      have hx := (HB.out.cell (World.block_lt_of_cell? w _ hx0)).trans hx0
      have HX0 := Aside0.mk hx0
      clear hx0
      have hbdc : ∀ p v, wr3.cell? p = some v → wr3.drew.cell? p = some v := fun p v h => h
      have hbd := below_drew (Below.refl wr3.heap.size wr3)
      replace HO := Aside0.mk (Kd.R_below HO.out hbd)
      replace HB := Aside0.mk (HB.out.trans (hbd.mono HB.out.size))
      clear hbd
      replace hy := hbdc _ _ hy
      replace hx := hbdc _ _ hx
      clear hbdc
      generalize hw9 : wr3.drew = w30 at *
      refine start_ (n := 15) (S := fun w' => w'.cell? (ad.add jj) = some (.int .i64 y2) ∧ w'.cell? (adc.add kk) = some (.int .i64 x)) (ds := []) #[false, false, false, false, false, false, false, false, false, false, false, false, false, false, false] (by kernel_rfl) rfl rfl (by rw [hw9]; exact ⟨hy, hx⟩) (fun hHeld => ?_)
      refine with_tabW so8_tab so8_bits (fun HT_ HW_ => ?_)
      rw [hw9] at hHeld ⊢
      clear hw9
      refine pure_ (i := 0) (N := some 32) (v := ?_) (a' := ?_) #[true, false, false, false, false, false, false, false, false, false, false, false, false, false, false] rfl rfl (any_of HT_.out (by kernel_rfl)) (fun _ _ _ h => h) (Or.inl ⟨by rfl, ?_⟩) ?_ ?_
      rotate_left
      ·intro w'
       go_simp
       with_reducible rfl
      rotate_left
      ·simp only [Act.put, List.setIfInBounds_toArray, List.set_cons_zero, List.set_cons_succ, i64_w, i32_w]
       rfl
      refine pure_ (i := 1) (N := some 33) (v := ?_) (a' := ?_) #[true, true, false, false, false, false, false, false, false, false, false, false, false, false, false] rfl rfl (any_of HT_.out (by kernel_rfl)) (fun _ _ _ h => h) (Or.inl ⟨by rfl, ?_⟩) ?_ ?_
      rotate_left
      ·intro w'
       go_simp
       with_reducible rfl
      rotate_left
      ·simp only [Act.put, List.setIfInBounds_toArray, List.set_cons_zero, List.set_cons_succ, i64_w, i32_w]
       rfl
      refine pure_ (i := 2) (N := some 34) (v := ?_) (a' := ?_) #[true, true, true, false, false, false, false, false, false, false, false, false, false, false, false] rfl rfl (any_of HT_.out (by kernel_rfl)) (fun _ _ _ h => h) (Or.inl ⟨by rfl, ?_⟩) ?_ ?_
      rotate_left
      ·intro w'
       go_simp
       with_reducible rfl
      rotate_left
      ·simp only [Act.put, List.setIfInBounds_toArray, List.set_cons_zero, List.set_cons_succ, i64_w, i32_w]
       rfl
      refine pure_ (i := 3) (N := some 35) (v := ?_) (a' := ?_) #[true, true, true, true, false, false, false, false, false, false, false, false, false, false, false] rfl rfl (any_of HT_.out (by kernel_rfl)) (fun _ _ _ h => h) (Or.inl ⟨by rfl, ?_⟩) ?_ ?_
      rotate_left
      ·intro w'
       go_simp
       with_reducible rfl
      rotate_left
      ·simp only [Act.put, List.setIfInBounds_toArray, List.set_cons_zero, List.set_cons_succ, i64_w, i32_w]
       rfl
      refine pure_ (i := 4) (N := some 36) (v := ?_) (a' := ?_) #[true, true, true, true, true, false, false, false, false, false, false, false, false, false, false] rfl rfl (any_of HT_.out (by kernel_rfl)) (fun _ _ _ h => h) (Or.inl ⟨by rfl, ?_⟩) ?_ ?_
      rotate_left
      ·intro w'
       go_simp
       with_reducible rfl
      rotate_left
      ·simp only [Act.put, List.setIfInBounds_toArray, List.set_cons_zero, List.set_cons_succ, i64_w, i32_w]
       rfl
      refine pure_ (i := 5) (N := some 37) (v := ?_) (a' := ?_) #[true, true, true, true, true, true, false, false, false, false, false, false, false, false, false] rfl rfl (any_of HT_.out (by kernel_rfl)) (fun _ _ _ h => h) (Or.inl ⟨by rfl, ?_⟩) ?_ ?_
      rotate_left
      ·intro w'
       go_simp
       with_reducible rfl
      rotate_left
      ·simp only [Act.put, List.setIfInBounds_toArray, List.set_cons_zero, List.set_cons_succ, i64_w, i32_w]
       rfl
      refine pure_ (i := 6) (N := some 38) (v := ?_) (a' := ?_) #[true, true, true, true, true, true, true, false, false, false, false, false, false, false, false] rfl rfl (any_of HT_.out (by kernel_rfl)) (fun _ _ _ h => h) (Or.inl ⟨by rfl, ?_⟩) ?_ ?_
      rotate_left
      ·intro w'
       go_simp
       with_reducible rfl
      rotate_left
      ·simp only [Act.put, List.setIfInBounds_toArray, List.set_cons_zero, List.set_cons_succ, i64_w, i32_w]
       rfl
      refine pure_ (i := 7) (N := some 39) (v := ?_) (a' := ?_) #[true, true, true, true, true, true, true, true, false, false, false, false, false, false, false] rfl rfl (any_of HT_.out (by kernel_rfl)) (fun _ _ _ h => h) (Or.inl ⟨by rfl, ?_⟩) ?_ ?_
      rotate_left
      ·intro w'
       go_simp
       with_reducible rfl
      rotate_left
      ·simp only [Act.put, List.setIfInBounds_toArray, List.set_cons_zero, List.set_cons_succ, i64_w, i32_w]
       rfl
      refine pure_ (i := 9) (N := some 41) (v := ?_) (a' := ?_) #[true, true, true, true, true, true, true, true, false, true, false, false, false, false, false] rfl rfl (any_of HT_.out (by kernel_rfl)) (fun _ _ _ h => h) (Or.inl ⟨by rfl, ?_⟩) ?_ ?_
      rotate_left
      ·intro w'
       go_simp
       with_reducible rfl
      rotate_left
      ·simp only [Act.put, List.setIfInBounds_toArray, List.set_cons_zero, List.set_cons_succ, i64_w, i32_w]
       rfl
      refine pure_ (i := 10) (N := some 42) (v := ?_) (a' := ?_) #[true, true, true, true, true, true, true, true, false, true, true, false, false, false, false] rfl rfl (any_of HT_.out (by kernel_rfl)) (fun _ _ _ h => h) (Or.inl ⟨by rfl, ?_⟩) ?_ ?_
      rotate_left
      ·intro w'
       go_simp
       with_reducible rfl
      rotate_left
      ·simp only [Act.put, List.setIfInBounds_toArray, List.set_cons_zero, List.set_cons_succ, i64_w, i32_w]
       rfl
      refine pure_ (i := 11) (N := some 43) (v := ?_) (a' := ?_) #[true, true, true, true, true, true, true, true, false, true, true, true, false, false, false] rfl rfl (any_of HT_.out (by kernel_rfl)) (fun _ _ _ h => h) (Or.inl ⟨by rfl, ?_⟩) ?_ ?_
      rotate_left
      ·intro w'
       go_simp
       with_reducible rfl
      rotate_left
      ·simp only [Act.put, List.setIfInBounds_toArray, List.set_cons_zero, List.set_cons_succ, i64_w, i32_w]
       rfl
      refine take_ (i := 8) (N := some 40) (v := ?_) (a' := ?_) #[true, true, true, true, true, true, true, true, true, true, true, true, false, false, false] rfl rfl (take_ofW HT_.out HW_.out (by kernel_rfl)) (fun _ _ _ h => h) (Or.inl ⟨by rfl, ?_⟩) hHeld ?_ ?_
      rotate_left
      ·rintro w' ⟨s0, s1⟩
       go_simp
       with_reducible rfl
      rotate_left
      ·simp only [Act.put, List.setIfInBounds_toArray, List.set_cons_zero, List.set_cons_succ, i64_w, i32_w]
       rfl
      refine take_ (i := 12) (N := some 44) (v := ?_) (a' := ?_) #[true, true, true, true, true, true, true, true, true, true, true, true, true, false, false] rfl rfl (take_ofW HT_.out HW_.out (by kernel_rfl)) (fun _ _ _ h => h) (Or.inl ⟨by rfl, ?_⟩) hHeld ?_ ?_
      rotate_left
      ·rintro w' ⟨s0, s1⟩
       go_simp
       with_reducible rfl
      rotate_left
      ·simp only [Act.put, List.setIfInBounds_toArray, List.set_cons_zero, List.set_cons_succ, i64_w, i32_w]
       rfl
      refine pure_ (i := 13) (N := some 45) (v := ?_) (a' := ?_) #[true, true, true, true, true, true, true, true, true, true, true, true, true, true, false] rfl rfl (any_of HT_.out (by kernel_rfl)) (fun _ _ _ h => h) (Or.inl ⟨by rfl, ?_⟩) ?_ ?_
      rotate_left
      ·intro w'
       go_simp
       with_reducible rfl
      rotate_left
      ·simp only [Act.put, List.setIfInBounds_toArray, List.set_cons_zero, List.set_cons_succ, i64_w, i32_w]
       rfl
      refine pure_ (i := 14) (N := some 46) (v := ?_) (a' := ?_) #[true, true, true, true, true, true, true, true, true, true, true, true, true, true, true] rfl rfl (any_of HT_.out (by kernel_rfl)) (fun _ _ _ h => h) (Or.inl ⟨by rfl, ?_⟩) ?_ ?_
      rotate_left
      ·intro w'
       go_simp
       with_reducible rfl
      rotate_left
      ·simp only [Act.put, List.setIfInBounds_toArray, List.set_cons_zero, List.set_cons_succ, i64_w, i32_w]
       rfl
      refine done_ (done_of HT_.out (by kernel_rfl)) ?_
      clear hHeld HT_ HW_
      have hx0 := HX0.out
      clear HX0
      by_cases hyx : y2 = x
      ·have hyb : (y2 == x) = true := beq_iff_eq.2 hyx
       have hI : insR x ys = ys := by unfold insR; rw [if_pos (by rw [hg8, hyx])]
       have HR2 : Aside0 (insAll (l0.drop (kk + 1)) ys = res) := ⟨by rw [← HRES.out, hI]⟩
       clear HRES HJ hI hg8 hx0
       rw [hyb]
       go_wp2
       go_roundg (l0.length - (kk + 1))
       case measure => omega
       case rel => exact ⟨kk + 1, ad, c, ys, by go_num, by omega, by omega, rfl, by omega, HYI, HR2, HO, HB⟩
      ·have hyb : (y2 == x) = false := beq_eq_false_iff_ne.2 hyx
       have hI : insR x ys = ys.take jj ++ [x] ++ ys.drop jj := by unfold insR; rw [if_neg (by rw [hg8]; intro h_; exact hyx (Option.some.inj h_)), HJ.out]
       clear hg8 HJ
       rw [hyb]
       have HI := Aside0.mk hI
       clear hI
       replace hjl := Nat.le_of_lt hjl
       have HX0 := Aside0.mk hx0
       clear hx0
       go_upto_region 9 with fail
       have hx0 := HX0.out
       clear HX0
       obtain ⟨wr3, hwr3⟩ : ∃ z : World, z = w30 := ⟨_, rfl⟩
       subst hwr3
       have hjc : jj ≤ c := Nat.le_trans hjl (R_cap HO.out)
       have hbd := below_drew (Below.refl wr3.heap.size wr3)
       replace HO := Aside0.mk (Kd.R_below HO.out hbd)
       replace HB := Aside0.mk (HB.out.trans (hbd.mono HB.out.size))
       clear hbd
       generalize hw9 : wr3.drew = w30 at *
       have hx30 := ((HB.out.cell (World.block_lt_of_cell? w _ hx0)).trans hx0)
       refine start_ (n := 16) (S := fun w' => w'.cell? (adc.add kk) = some (.int .i64 x)) (ds := []) #[false, false, false, false, false, false, false, false, false, false, false, false, false, false, false, false] (by kernel_rfl) rfl rfl (by rw [hw9]; exact hx30) (fun hHeld => ?_)
       refine with_tabW so9_tab so9_bits (fun HT_ HW_ => ?_)
       rw [hw9] at hHeld ⊢
       clear hw9
       have HOU := Aside0.mk (Kd.R_mono (ok' := fun k_ => k_ < w30.heap.size) (Kd.R_bound HO.out) (fun k_ hk_ => hk_.2.2.1))
       clear HO hx30
       obtain ⟨SZ, hSZ⟩ : ∃ s, w30.heap.size = s := ⟨_, rfl⟩
       rw [hSZ] at HOU
       have HSZ := Aside0.mk (Nat.le_of_eq hSZ.symm)
       clear hSZ
       refine pure_ (i := 1) (N := some 48) (v := ?_) (a' := ?_) #[false, true, false, false, false, false, false, false, false, false, false, false, false, false, false, false] rfl rfl (any_of HT_.out (by kernel_rfl)) (fun _ _ _ h => h) (Or.inl ⟨by rfl, ?_⟩) ?_ ?_
       rotate_left
       ·intro w'
        go_simp
        with_reducible rfl
       rotate_left
       ·simp only [Act.put, List.setIfInBounds_toArray, List.set_cons_zero, List.set_cons_succ, i64_w, i32_w]
        rfl
       refine pure_ (i := 2) (N := some 49) (v := ?_) (a' := ?_) #[false, true, true, false, false, false, false, false, false, false, false, false, false, false, false, false] rfl rfl (any_of HT_.out (by kernel_rfl)) (fun _ _ _ h => h) (Or.inl ⟨by rfl, ?_⟩) ?_ ?_
       rotate_left
       ·intro w'
        go_simp
        with_reducible rfl
       rotate_left
       ·simp only [Act.put, List.setIfInBounds_toArray, List.set_cons_zero, List.set_cons_succ, i64_w, i32_w]
        rfl
       refine pure_ (i := 3) (N := some 50) (v := ?_) (a' := ?_) #[false, true, true, true, false, false, false, false, false, false, false, false, false, false, false, false] rfl rfl (any_of HT_.out (by kernel_rfl)) (fun _ _ _ h => h) (Or.inl ⟨by rfl, ?_⟩) ?_ ?_
       rotate_left
       ·intro w'
        go_simp
        with_reducible rfl
       rotate_left
       ·simp only [Act.put, List.setIfInBounds_toArray, List.set_cons_zero, List.set_cons_succ, i64_w, i32_w]
        rfl
       refine pure_ (i := 5) (N := some 52) (v := ?_) (a' := ?_) #[false, true, true, true, false, true, false, false, false, false, false, false, false, false, false, false] rfl rfl (any_of HT_.out (by kernel_rfl)) (fun _ _ _ h => h) (Or.inl ⟨by rfl, ?_⟩) ?_ ?_
       rotate_left
       ·intro w'
        go_simp
        with_reducible rfl
       rotate_left
       ·simp only [Act.put, List.setIfInBounds_toArray, List.set_cons_zero, List.set_cons_succ, i64_w, i32_w]
        rfl
       refine pure_ (i := 6) (N := some 53) (v := ?_) (a' := ?_) #[false, true, true, true, false, true, true, false, false, false, false, false, false, false, false, false] rfl rfl (any_of HT_.out (by kernel_rfl)) (fun _ _ _ h => h) (Or.inl ⟨by rfl, ?_⟩) ?_ ?_
       rotate_left
       ·intro w'
        go_simp
        with_reducible rfl
       rotate_left
       ·simp only [Act.put, List.setIfInBounds_toArray, List.set_cons_zero, List.set_cons_succ, i64_w, i32_w]
        rfl
       refine pure_ (i := 7) (N := some 54) (v := ?_) (a' := ?_) #[false, true, true, true, false, true, true, true, false, false, false, false, false, false, false, false] rfl rfl (any_of HT_.out (by kernel_rfl)) (fun _ _ _ h => h) (Or.inl ⟨by rfl, ?_⟩) ?_ ?_
       rotate_left
       ·intro w'
        go_simp
        with_reducible rfl
       rotate_left
       ·simp only [Act.put, List.setIfInBounds_toArray, List.set_cons_zero, List.set_cons_succ, i64_w, i32_w]
        rfl
       refine pure_ (i := 11) (N := some 58) (v := ?_) (a' := ?_) #[false, true, true, true, false, true, true, true, false, false, false, true, false, false, false, false] rfl rfl (any_of HT_.out (by kernel_rfl)) (fun _ _ _ h => h) (Or.inl ⟨by rfl, ?_⟩) ?_ ?_
       rotate_left
       ·intro w'
        go_simp
        with_reducible rfl
       rotate_left
       ·simp only [Act.put, List.setIfInBounds_toArray, List.set_cons_zero, List.set_cons_succ, i64_w, i32_w]
        rfl
       refine pure_ (i := 12) (N := some 59) (v := ?_) (a' := ?_) #[false, true, true, true, false, true, true, true, false, false, false, true, true, false, false, false] rfl rfl (any_of HT_.out (by kernel_rfl)) (fun _ _ _ h => h) (Or.inl ⟨by rfl, ?_⟩) ?_ ?_
       rotate_left
       ·intro w'
        go_simp
        with_reducible rfl
       rotate_left
       ·simp only [Act.put, List.setIfInBounds_toArray, List.set_cons_zero, List.set_cons_succ, i64_w, i32_w]
        rfl
       refine pure_ (i := 13) (N := some 60) (v := ?_) (a' := ?_) #[false, true, true, true, false, true, true, true, false, false, false, true, true, true, false, false] rfl rfl (any_of HT_.out (by kernel_rfl)) (fun _ _ _ h => h) (Or.inl ⟨by rfl, ?_⟩) ?_ ?_
       rotate_left
       ·intro w'
        go_simp
        with_reducible rfl
       rotate_left
       ·simp only [Act.put, List.setIfInBounds_toArray, List.set_cons_zero, List.set_cons_succ, i64_w, i32_w]
        rfl
       refine take_ (i := 8) (N := some 55) (v := ?_) (a' := ?_) #[false, true, true, true, false, true, true, true, true, false, false, true, true, true, false, false] rfl rfl (take_ofW HT_.out HW_.out (by kernel_rfl)) (fun _ _ _ h => h) (Or.inl ⟨by rfl, ?_⟩) hHeld ?_ ?_
       rotate_left
       ·intro w' s0
        go_simp
        with_reducible rfl
       rotate_left
       ·simp only [Act.put, List.setIfInBounds_toArray, List.set_cons_zero, List.set_cons_succ, i64_w, i32_w]
        rfl
       refine two_ (i := 0) (j := 9) (Ni := some 47) (Nj := some 56) #[true, true, true, true, false, true, true, true, true, false, false, true, true, true, false, false] #[false, true, true, true, false, true, true, true, true, true, false, true, true, true, false, false] rfl rfl rfl rfl (two_of HT_.out (by kernel_rfl)) (by decide) (by decide) (fun K hK => ?_) (fun K hK => ?_)
       ·refine Kd.R_lit_step (Kd.int .i64) (w0 := w) w.heap.size 3 (by rfl) (N := 47) rfl (xs := ([] : List Int)) (inner := []) (ok := fun k_ => SZ ≤ k_) (okp := fun _ => False) (by go_simp; done) (Reps.none _ _) (fun _ hk => hk.elim) HSZ.out HB.out HB.out.size (by simp) ?_
        intro va w31 hr hb_ hg_ hat_
        replace HOU := Aside0.mk (Kd.R_grown HOU.out hg_ (fun _ _ hk => by cases hk))
        replace HSZ := Aside0.mk (Nat.le_trans HSZ.out hg_.size)
        replace HB := Aside0.mk hb_
        have Ha := Aside0.mk hr
        clear hr hb_ hg_ hat_
        refine hK.out _ _ ((HB.out.cell (World.block_lt_of_cell? w _ hx0)).trans hx0) (fun hHeld => ?_)
        clear hK K
        refine norm_ (a' := ?_) ?_ ?_
        rotate_left
        ·show Act.put _ (some 47) _ = _
         simp only [Act.put, List.setIfInBounds_toArray, List.set_cons_zero, List.set_cons_succ, i64_w, i32_w]
         rfl
        refine two_ (i := 4) (j := 9) (Ni := some 51) (Nj := some 56) #[true, true, true, true, true, true, true, true, true, false, false, true, true, true, false, false] #[true, true, true, true, false, true, true, true, true, true, false, true, true, true, false, false] rfl rfl rfl rfl (two_of HT_.out (by kernel_rfl)) (by decide) (by decide) (fun K hK => ?_) (fun K hK => ?_)
        ·have HSZ0 := HSZ
         have Ha2 := Aside0.mk (Kd.R_mono (ok' := fun k_ => SZ ≤ k_ ∨ w31.heap.size ≤ k_) Ha.out (fun k_ hk_ => .inl hk_))
         refine Kd.R_append_rows_step (Kd.int .i64) (w0 := w) w.heap.size (by rfl) (.tmp 47) (.tmp 50) 37 3 (.int .i64 0) 8 rfl Try.underlying37 info3 rfl (by decide) (by omega) _ _ _ _ _ _ _ (fun _ => False) rfl rfl Ha2.out ((R_ctake HOU.out hjl)) (fun _ _ h => h) (fun _ h => h.elim) (fun k_ hk_ => .inr hk_) HB.out HB.out.size (by simp only [List.length_nil]; omega) ?_
         intro vb w32 hr hb_ hg_ hat_
         rw [List.nil_append] at hr
         replace HOU := Aside0.mk (Kd.R_grown HOU.out hg_ (fun k_ hk_ e_ => Nat.not_lt.2 (Ha.out.1 k_ e_.symm) hk_))
         replace HSZ := Aside0.mk (Nat.le_trans HSZ.out hg_.size)
         replace HB := Aside0.mk hb_
         have Hb := Aside0.mk hr
         clear hr hb_ hg_ hat_
         replace Hb := Aside0.mk (Kd.R_mono (ok' := fun k_ => SZ ≤ k_) Hb.out (fun k_ hk_ => hk_.elim id (fun h_ => Nat.le_trans HSZ0.out h_)))
         clear Ha Ha2 HSZ0
         refine hK.out _ _ ((HB.out.cell (World.block_lt_of_cell? w _ hx0)).trans hx0) (fun hHeld => ?_)
         clear hK K
         refine norm_ (a' := ?_) ?_ ?_
         rotate_left
         ·show Act.put _ (some 51) _ = _
          simp only [Act.put, List.setIfInBounds_toArray, List.set_cons_zero, List.set_cons_succ, i64_w, i32_w]
          rfl
         refine one_ (i := 9) (N := some 56) #[true, true, true, true, true, true, true, true, true, true, false, true, true, true, false, false] rfl rfl (one_of HT_.out (by kernel_rfl)) (by decide) (fun K hK => ?_)
         refine Kd.R_lit_step (Kd.int .i64) (w0 := w) w.heap.size 3 (by rfl) (N := 56) rfl (xs := ([x] : List Int)) (inner := [.int .i64 x]) (ok := fun _ => True) (okp := fun _ => False) (by go_simp; done) (Kd.reps_scalar [x]) (fun _ hk => hk.elim) trivial HB.out HB.out.size (by simp) ?_
         intro vc w33 hr hb_ hg_ hat_
         replace HOU := Aside0.mk (Kd.R_grown HOU.out hg_ (fun _ _ hk => by cases hk))
         replace Hb := Aside0.mk (Kd.R_grown Hb.out hg_ (fun _ _ hk => by cases hk))
         replace HSZ := Aside0.mk (Nat.le_trans HSZ.out hg_.size)
         replace HB := Aside0.mk hb_
         have Hc := Aside0.mk hr
         clear hr hb_ hg_ hat_
         refine hK.out _ _ ((HB.out.cell (World.block_lt_of_cell? w _ hx0)).trans hx0) (fun hHeld => ?_)
         clear hK K
         refine norm_ (a' := ?_) ?_ ?_
         rotate_left
         ·show Act.put _ (some 56) _ = _
          simp only [Act.put, List.setIfInBounds_toArray, List.set_cons_zero, List.set_cons_succ, i64_w, i32_w]
          rfl
         obtain ⟨Ac_, cc_, ec_⟩ := Kd.R_slice Hc.out
         subst ec_
         replace Hb := Aside0.mk (Kd.R_mono (ok' := fun k_ => SZ ≤ k_ ∨ w33.heap.size ≤ k_) Hb.out (fun k_ hk_ => .inl hk_))
         refine one_ (i := 10) (N := some 57) #[true, true, true, true, true, true, true, true, true, true, true, true, true, true, false, false] rfl rfl (one_of HT_.out (by kernel_rfl)) (by decide) (fun K hK => ?_)
         refine Kd.R_append_rows_step (Kd.int .i64) (w0 := w) w.heap.size (by rfl) (.tmp 51) (.tmp 56) 37 3 (.int .i64 0) 8 rfl Try.underlying37 info3 rfl (by decide) (by omega) _ _ _ _ _ _ _ (fun _ => False) rfl rfl Hb.out ((Kd.R_reads' Hc.out).2.2) (fun _ _ h => h) (fun _ h => h.elim) (fun k_ hk_ => .inr hk_) HB.out HB.out.size (by simp only [List.length_take, List.length_cons, List.length_nil]; omega) ?_
         intro vd w37 hr hb_ hg_ hat_
         replace HOU := Aside0.mk (Kd.R_grown HOU.out hg_ (fun k_ hk_ e_ => (Hb.out.1 k_ e_.symm).elim (fun h_ => Nat.not_lt.2 h_ hk_) (fun h_ => Nat.not_lt.2 (Nat.le_trans HSZ.out h_) hk_)))
         replace HSZ := Aside0.mk (Nat.le_trans HSZ.out hg_.size)
         replace HB := Aside0.mk hb_
         have Hd := Aside0.mk hr
         clear hr hb_ hg_ hat_
         clear Hb Hc
         refine hK.out _ _ ((HB.out.cell (World.block_lt_of_cell? w _ hx0)).trans hx0) (fun hHeld => ?_)
         clear hK K
         refine norm_ (a' := ?_) ?_ ?_
         rotate_left
         ·show Act.put _ (some 57) _ = _
          simp only [Act.put, List.setIfInBounds_toArray, List.set_cons_zero, List.set_cons_succ, i64_w, i32_w]
          rfl
         replace Hd := Aside0.mk (Kd.R_mono (ok' := fun k_ => True) Hd.out (fun k_ hk_ => trivial))
         refine one_ (i := 14) (N := some 61) #[true, true, true, true, true, true, true, true, true, true, true, true, true, true, true, false] rfl rfl (one_of HT_.out (by kernel_rfl)) (by decide) (fun K hK => ?_)
         refine Kd.R_append_rows_step (Kd.int .i64) (w0 := w) w.heap.size (by rfl) (.tmp 57) (.tmp 60) 37 3 (.int .i64 0) 8 rfl Try.underlying37 info3 rfl (by decide) (by omega) _ _ _ _ _ _ _ (fun _ => False) rfl rfl Hd.out ((R_cdrop HOU.out hjl (R_cap HOU.out))) (fun _ _ h => h) (fun _ h => h.elim) (fun k_ hk_ => trivial) HB.out HB.out.size (by simp only [List.length_append, List.length_take, List.length_cons, List.length_nil]; omega) ?_
         intro ve w38 hr hb_ hg_ hat_
         replace HSZ := Aside0.mk (Nat.le_trans HSZ.out hg_.size)
         replace HB := Aside0.mk hb_
         have He := Aside0.mk hr
         clear hr hb_ hg_ hat_
         clear Hd HOU HSZ SZ
         refine hK.out _ _ ((HB.out.cell (World.block_lt_of_cell? w _ hx0)).trans hx0) (fun hHeld => ?_)
         clear hK K
         refine norm_ (a' := ?_) ?_ ?_
         rotate_left
         ·show Act.put _ (some 61) _ = _
          simp only [Act.put, List.setIfInBounds_toArray, List.set_cons_zero, List.set_cons_succ, i64_w, i32_w]
          rfl
         refine pure_ (i := 15) (N := some 4) (v := ?_) (a' := ?_) #[true, true, true, true, true, true, true, true, true, true, true, true, true, true, true, true] rfl rfl (any_of HT_.out (by kernel_rfl)) (fun _ _ _ h => h) (Or.inl ⟨by rfl, ?_⟩) ?_ ?_
         rotate_left
         ·intro w'
          go_simp
          with_reducible rfl
         rotate_left
         ·simp only [Act.put, List.setIfInBounds_toArray, List.set_cons_zero, List.set_cons_succ, i64_w, i32_w]
          rfl
         refine done_ (done_of HT_.out (by kernel_rfl)) ?_
         clear hHeld HT_ HW_
         have hl9 : (insR x ys).length ≤ kk + 1 := Nat.le_trans (insR_len x ys) (by omega)
         have hHe := He.out
         rw [← HI.out] at hHe
         obtain ⟨A9, c9, e9⟩ := Kd.R_slice hHe
         subst e9
         obtain ⟨a9, h9, -⟩ := Kd.at_int (Kd.R_reads' hHe).2.2 0 (Int.le_refl _) (by rw [HI.out]; simp only [List.length_append, List.length_cons, List.length_nil]; omega)
         subst h9
         have HO := Aside0.mk hHe
         have HY9 : Aside0 (∀ y_ ∈ insR x ys, inR y_) := ⟨insR_in HXI.out HYI.out⟩
         clear hHe He HI
         generalize (if c = jj then some ad else some (ad.add jj)) = A60_
         go_wp2
         go_roundg (l0.length - (kk + 1))
         case measure => omega
         case rel => exact ⟨kk + 1, a9, c9, insR x ys, by go_num, by omega, by omega, rfl, hl9, HY9, HRES, HO, HB⟩
        ·replace Ha := Aside0.mk (Kd.R_bound Ha.out)
         obtain ⟨L, hL⟩ : ∃ s, w31.heap.size = s := ⟨_, rfl⟩
         have HL0 := Aside0.mk hL
         refine Kd.R_lit_step (Kd.int .i64) (w0 := w) w.heap.size 3 (by rfl) (N := 56) rfl (xs := ([x] : List Int)) (inner := [.int .i64 x]) (ok := fun k_ => w31.heap.size ≤ k_) (okp := fun _ => False) (by go_simp; done) (Kd.reps_scalar [x]) (fun _ hk => hk.elim) (Nat.le_refl _) HB.out HB.out.size (by simp) ?_
         intro vc w32 hr hb_ hg_ hat_
         replace HOU := Aside0.mk (Kd.R_grown HOU.out hg_ (fun _ _ hk => by cases hk))
         replace Ha := Aside0.mk (Kd.R_grown Ha.out hg_ (fun _ _ hk => by cases hk))
         replace HSZ := Aside0.mk (Nat.le_trans HSZ.out hg_.size)
         replace HB := Aside0.mk hb_
         have Hc := Aside0.mk hr
         clear hr hb_ hg_ hat_
         clear HL0 hL L
         refine hK.out _ _ ((HB.out.cell (World.block_lt_of_cell? w _ hx0)).trans hx0) (fun hHeld => ?_)
         clear hK K
         refine norm_ (a' := ?_) ?_ ?_
         rotate_left
         ·show Act.put _ (some 56) _ = _
          simp only [Act.put, List.setIfInBounds_toArray, List.set_cons_zero, List.set_cons_succ, i64_w, i32_w]
          rfl
         have HSZ0 := HSZ
         have Ha2 := Aside0.mk (Kd.R_mono (ok' := fun k_ => SZ ≤ k_ ∨ w32.heap.size ≤ k_) Ha.out (fun k_ hk_ => .inl hk_.1))
         refine one_ (i := 4) (N := some 51) #[true, true, true, true, true, true, true, true, true, true, false, true, true, true, false, false] rfl rfl (one_of HT_.out (by kernel_rfl)) (by decide) (fun K hK => ?_)
         refine Kd.R_append_rows_step (Kd.int .i64) (w0 := w) w.heap.size (by rfl) (.tmp 47) (.tmp 50) 37 3 (.int .i64 0) 8 rfl Try.underlying37 info3 rfl (by decide) (by omega) _ _ _ _ _ _ _ (fun _ => False) rfl rfl Ha2.out ((R_ctake HOU.out hjl)) (fun _ _ h => h) (fun _ h => h.elim) (fun k_ hk_ => .inr hk_) HB.out HB.out.size (by simp only [List.length_nil]; omega) ?_
         intro vb w33 hr hb_ hg_ hat_
         rw [List.nil_append] at hr
         replace HOU := Aside0.mk (Kd.R_grown HOU.out hg_ (fun k_ hk_ e_ => Nat.not_lt.2 (Ha.out.1 k_ e_.symm).1 hk_))
         replace Hc := Aside0.mk (Kd.R_grown Hc.out hg_ (fun k_ hk_ e_ => Nat.not_lt.2 hk_ (Ha.out.1 k_ e_.symm).2.2.1))
         replace HSZ := Aside0.mk (Nat.le_trans HSZ.out hg_.size)
         replace HB := Aside0.mk hb_
         have Hb := Aside0.mk hr
         clear hr hb_ hg_ hat_
         replace Hb := Aside0.mk (Kd.R_mono (ok' := fun k_ => SZ ≤ k_) Hb.out (fun k_ hk_ => hk_.elim id (fun h_ => Nat.le_trans HSZ0.out h_)))
         clear Ha Ha2 HSZ0
         refine hK.out _ _ ((HB.out.cell (World.block_lt_of_cell? w _ hx0)).trans hx0) (fun hHeld => ?_)
         clear hK K
         refine norm_ (a' := ?_) ?_ ?_
         rotate_left
         ·show Act.put _ (some 51) _ = _
          simp only [Act.put, List.setIfInBounds_toArray, List.set_cons_zero, List.set_cons_succ, i64_w, i32_w]
          rfl
         obtain ⟨Ac_, cc_, ec_⟩ := Kd.R_slice Hc.out
         subst ec_
         replace Hb := Aside0.mk (Kd.R_mono (ok' := fun k_ => SZ ≤ k_ ∨ w33.heap.size ≤ k_) Hb.out (fun k_ hk_ => .inl hk_))
         refine one_ (i := 10) (N := some 57) #[true, true, true, true, true, true, true, true, true, true, true, true, true, true, false, false] rfl rfl (one_of HT_.out (by kernel_rfl)) (by decide) (fun K hK => ?_)
         refine Kd.R_append_rows_step (Kd.int .i64) (w0 := w) w.heap.size (by rfl) (.tmp 51) (.tmp 56) 37 3 (.int .i64 0) 8 rfl Try.underlying37 info3 rfl (by decide) (by omega) _ _ _ _ _ _ _ (fun _ => False) rfl rfl Hb.out ((Kd.R_reads' Hc.out).2.2) (fun _ _ h => h) (fun _ h => h.elim) (fun k_ hk_ => .inr hk_) HB.out HB.out.size (by simp only [List.length_take, List.length_cons, List.length_nil]; omega) ?_
         intro vd w37 hr hb_ hg_ hat_
         replace HOU := Aside0.mk (Kd.R_grown HOU.out hg_ (fun k_ hk_ e_ => (Hb.out.1 k_ e_.symm).elim (fun h_ => Nat.not_lt.2 h_ hk_) (fun h_ => Nat.not_lt.2 (Nat.le_trans HSZ.out h_) hk_)))
         replace HSZ := Aside0.mk (Nat.le_trans HSZ.out hg_.size)
         replace HB := Aside0.mk hb_
         have Hd := Aside0.mk hr
         clear hr hb_ hg_ hat_
         clear Hb Hc
         refine hK.out _ _ ((HB.out.cell (World.block_lt_of_cell? w _ hx0)).trans hx0) (fun hHeld => ?_)
         clear hK K
         refine norm_ (a' := ?_) ?_ ?_
         rotate_left
         ·show Act.put _ (some 57) _ = _
          simp only [Act.put, List.setIfInBounds_toArray, List.set_cons_zero, List.set_cons_succ, i64_w, i32_w]
          rfl
         replace Hd := Aside0.mk (Kd.R_mono (ok' := fun k_ => True) Hd.out (fun k_ hk_ => trivial))
         refine one_ (i := 14) (N := some 61) #[true, true, true, true, true, true, true, true, true, true, true, true, true, true, true, false] rfl rfl (one_of HT_.out (by kernel_rfl)) (by decide) (fun K hK => ?_)
         refine Kd.R_append_rows_step (Kd.int .i64) (w0 := w) w.heap.size (by rfl) (.tmp 57) (.tmp 60) 37 3 (.int .i64 0) 8 rfl Try.underlying37 info3 rfl (by decide) (by omega) _ _ _ _ _ _ _ (fun _ => False) rfl rfl Hd.out ((R_cdrop HOU.out hjl (R_cap HOU.out))) (fun _ _ h => h) (fun _ h => h.elim) (fun k_ hk_ => trivial) HB.out HB.out.size (by simp only [List.length_append, List.length_take, List.length_cons, List.length_nil]; omega) ?_
         intro ve w38 hr hb_ hg_ hat_
         replace HSZ := Aside0.mk (Nat.le_trans HSZ.out hg_.size)
         replace HB := Aside0.mk hb_
         have He := Aside0.mk hr
         clear hr hb_ hg_ hat_
         clear Hd HOU HSZ SZ
         refine hK.out _ _ ((HB.out.cell (World.block_lt_of_cell? w _ hx0)).trans hx0) (fun hHeld => ?_)
         clear hK K
         refine norm_ (a' := ?_) ?_ ?_
         rotate_left
         ·show Act.put _ (some 61) _ = _
          simp only [Act.put, List.setIfInBounds_toArray, List.set_cons_zero, List.set_cons_succ, i64_w, i32_w]
          rfl
         refine pure_ (i := 15) (N := some 4) (v := ?_) (a' := ?_) #[true, true, true, true, true, true, true, true, true, true, true, true, true, true, true, true] rfl rfl (any_of HT_.out (by kernel_rfl)) (fun _ _ _ h => h) (Or.inl ⟨by rfl, ?_⟩) ?_ ?_
         rotate_left
         ·intro w'
          go_simp
          with_reducible rfl
         rotate_left
         ·simp only [Act.put, List.setIfInBounds_toArray, List.set_cons_zero, List.set_cons_succ, i64_w, i32_w]
          rfl
         refine done_ (done_of HT_.out (by kernel_rfl)) ?_
         clear hHeld HT_ HW_
         have hl9 : (insR x ys).length ≤ kk + 1 := Nat.le_trans (insR_len x ys) (by omega)
         have hHe := He.out
         rw [← HI.out] at hHe
         obtain ⟨A9, c9, e9⟩ := Kd.R_slice hHe
         subst e9
         obtain ⟨a9, h9, -⟩ := Kd.at_int (Kd.R_reads' hHe).2.2 0 (Int.le_refl _) (by rw [HI.out]; simp only [List.length_append, List.length_cons, List.length_nil]; omega)
         subst h9
         have HO := Aside0.mk hHe
         have HY9 : Aside0 (∀ y_ ∈ insR x ys, inR y_) := ⟨insR_in HXI.out HYI.out⟩
         clear hHe He HI
         generalize (if c = jj then some ad else some (ad.add jj)) = A60_
         go_wp2
         go_roundg (l0.length - (kk + 1))
         case measure => omega
         case rel => exact ⟨kk + 1, a9, c9, insR x ys, by go_num, by omega, by omega, rfl, hl9, HY9, HRES, HO, HB⟩
       ·refine Kd.R_lit_step (Kd.int .i64) (w0 := w) w.heap.size 3 (by rfl) (N := 56) rfl (xs := ([x] : List Int)) (inner := [.int .i64 x]) (ok := fun _ => True) (okp := fun _ => False) (by go_simp; done) (Kd.reps_scalar [x]) (fun _ hk => hk.elim) trivial HB.out HB.out.size (by simp) ?_
        intro vc w31 hr hb_ hg_ hat_
        replace HOU := Aside0.mk (Kd.R_grown HOU.out hg_ (fun _ _ hk => by cases hk))
        replace HSZ := Aside0.mk (Nat.le_trans HSZ.out hg_.size)
        replace HB := Aside0.mk hb_
        have Hc := Aside0.mk hr
        clear hr hb_ hg_ hat_
        refine hK.out _ _ ((HB.out.cell (World.block_lt_of_cell? w _ hx0)).trans hx0) (fun hHeld => ?_)
        clear hK K
        refine norm_ (a' := ?_) ?_ ?_
        rotate_left
        ·show Act.put _ (some 56) _ = _
         simp only [Act.put, List.setIfInBounds_toArray, List.set_cons_zero, List.set_cons_succ, i64_w, i32_w]
         rfl
        replace Hc := Aside0.mk (Kd.R_bound Hc.out)
        refine one_ (i := 0) (N := some 47) #[true, true, true, true, false, true, true, true, true, true, false, true, true, true, false, false] rfl rfl (one_of HT_.out (by kernel_rfl)) (by decide) (fun K hK => ?_)
        refine Kd.R_lit_step (Kd.int .i64) (w0 := w) w.heap.size 3 (by rfl) (N := 47) rfl (xs := ([] : List Int)) (inner := []) (ok := fun k_ => w31.heap.size ≤ k_) (okp := fun _ => False) (by go_simp; done) (Reps.none _ _) (fun _ hk => hk.elim) (Nat.le_refl _) HB.out HB.out.size (by simp) ?_
        intro va w32 hr hb_ hg_ hat_
        replace HOU := Aside0.mk (Kd.R_grown HOU.out hg_ (fun _ _ hk => by cases hk))
        replace Hc := Aside0.mk (Kd.R_grown Hc.out hg_ (fun _ _ hk => by cases hk))
        have HSZ1 := HSZ
        replace HSZ := Aside0.mk (Nat.le_trans HSZ.out hg_.size)
        replace HB := Aside0.mk hb_
        have Ha := Aside0.mk hr
        clear hr hb_ hg_ hat_
        refine hK.out _ _ ((HB.out.cell (World.block_lt_of_cell? w _ hx0)).trans hx0) (fun hHeld => ?_)
        clear hK K
        refine norm_ (a' := ?_) ?_ ?_
        rotate_left
        ·show Act.put _ (some 47) _ = _
         simp only [Act.put, List.setIfInBounds_toArray, List.set_cons_zero, List.set_cons_succ, i64_w, i32_w]
         rfl
        have HSZ0 := HSZ
        have Ha2 := Aside0.mk (Kd.R_mono (ok' := fun k_ => SZ ≤ k_ ∨ w32.heap.size ≤ k_) Ha.out (fun k_ hk_ => .inl (Nat.le_trans HSZ1.out hk_)))
        refine one_ (i := 4) (N := some 51) #[true, true, true, true, true, true, true, true, true, true, false, true, true, true, false, false] rfl rfl (one_of HT_.out (by kernel_rfl)) (by decide) (fun K hK => ?_)
        refine Kd.R_append_rows_step (Kd.int .i64) (w0 := w) w.heap.size (by rfl) (.tmp 47) (.tmp 50) 37 3 (.int .i64 0) 8 rfl Try.underlying37 info3 rfl (by decide) (by omega) _ _ _ _ _ _ _ (fun _ => False) rfl rfl Ha2.out ((R_ctake HOU.out hjl)) (fun _ _ h => h) (fun _ h => h.elim) (fun k_ hk_ => .inr hk_) HB.out HB.out.size (by simp only [List.length_nil]; omega) ?_
        intro vb w33 hr hb_ hg_ hat_
        rw [List.nil_append] at hr
        replace HOU := Aside0.mk (Kd.R_grown HOU.out hg_ (fun k_ hk_ e_ => Nat.not_lt.2 (Nat.le_trans HSZ1.out (Ha.out.1 k_ e_.symm)) hk_))
        replace Hc := Aside0.mk (Kd.R_grown Hc.out hg_ (fun k_ hk_ e_ => Nat.not_lt.2 (Ha.out.1 k_ e_.symm) hk_.2.2.1))
        replace HSZ := Aside0.mk (Nat.le_trans HSZ.out hg_.size)
        replace HB := Aside0.mk hb_
        have Hb := Aside0.mk hr
        clear hr hb_ hg_ hat_
        replace Hb := Aside0.mk (Kd.R_mono (ok' := fun k_ => SZ ≤ k_) Hb.out (fun k_ hk_ => hk_.elim id (fun h_ => Nat.le_trans HSZ0.out h_)))
        clear Ha Ha2 HSZ0 HSZ1
        refine hK.out _ _ ((HB.out.cell (World.block_lt_of_cell? w _ hx0)).trans hx0) (fun hHeld => ?_)
        clear hK K
        refine norm_ (a' := ?_) ?_ ?_
        rotate_left
        ·show Act.put _ (some 51) _ = _
         simp only [Act.put, List.setIfInBounds_toArray, List.set_cons_zero, List.set_cons_succ, i64_w, i32_w]
         rfl
        obtain ⟨Ac_, cc_, ec_⟩ := Kd.R_slice Hc.out
        subst ec_
        replace Hb := Aside0.mk (Kd.R_mono (ok' := fun k_ => SZ ≤ k_ ∨ w33.heap.size ≤ k_) Hb.out (fun k_ hk_ => .inl hk_))
        refine one_ (i := 10) (N := some 57) #[true, true, true, true, true, true, true, true, true, true, true, true, true, true, false, false] rfl rfl (one_of HT_.out (by kernel_rfl)) (by decide) (fun K hK => ?_)
        refine Kd.R_append_rows_step (Kd.int .i64) (w0 := w) w.heap.size (by rfl) (.tmp 51) (.tmp 56) 37 3 (.int .i64 0) 8 rfl Try.underlying37 info3 rfl (by decide) (by omega) _ _ _ _ _ _ _ (fun _ => False) rfl rfl Hb.out ((Kd.R_reads' Hc.out).2.2) (fun _ _ h => h) (fun _ h => h.elim) (fun k_ hk_ => .inr hk_) HB.out HB.out.size (by simp only [List.length_take, List.length_cons, List.length_nil]; omega) ?_
        intro vd w37 hr hb_ hg_ hat_
        replace HOU := Aside0.mk (Kd.R_grown HOU.out hg_ (fun k_ hk_ e_ => (Hb.out.1 k_ e_.symm).elim (fun h_ => Nat.not_lt.2 h_ hk_) (fun h_ => Nat.not_lt.2 (Nat.le_trans HSZ.out h_) hk_)))
        replace HSZ := Aside0.mk (Nat.le_trans HSZ.out hg_.size)
        replace HB := Aside0.mk hb_
        have Hd := Aside0.mk hr
        clear hr hb_ hg_ hat_
        clear Hb Hc
        refine hK.out _ _ ((HB.out.cell (World.block_lt_of_cell? w _ hx0)).trans hx0) (fun hHeld => ?_)
        clear hK K
        refine norm_ (a' := ?_) ?_ ?_
        rotate_left
        ·show Act.put _ (some 57) _ = _
         simp only [Act.put, List.setIfInBounds_toArray, List.set_cons_zero, List.set_cons_succ, i64_w, i32_w]
         rfl
        replace Hd := Aside0.mk (Kd.R_mono (ok' := fun k_ => True) Hd.out (fun k_ hk_ => trivial))
        refine one_ (i := 14) (N := some 61) #[true, true, true, true, true, true, true, true, true, true, true, true, true, true, true, false] rfl rfl (one_of HT_.out (by kernel_rfl)) (by decide) (fun K hK => ?_)
        refine Kd.R_append_rows_step (Kd.int .i64) (w0 := w) w.heap.size (by rfl) (.tmp 57) (.tmp 60) 37 3 (.int .i64 0) 8 rfl Try.underlying37 info3 rfl (by decide) (by omega) _ _ _ _ _ _ _ (fun _ => False) rfl rfl Hd.out ((R_cdrop HOU.out hjl (R_cap HOU.out))) (fun _ _ h => h) (fun _ h => h.elim) (fun k_ hk_ => trivial) HB.out HB.out.size (by simp only [List.length_append, List.length_take, List.length_cons, List.length_nil]; omega) ?_
        intro ve w38 hr hb_ hg_ hat_
        replace HSZ := Aside0.mk (Nat.le_trans HSZ.out hg_.size)
        replace HB := Aside0.mk hb_
        have He := Aside0.mk hr
        clear hr hb_ hg_ hat_
        clear Hd HOU HSZ SZ
        refine hK.out _ _ ((HB.out.cell (World.block_lt_of_cell? w _ hx0)).trans hx0) (fun hHeld => ?_)
        clear hK K
        refine norm_ (a' := ?_) ?_ ?_
        rotate_left
        ·show Act.put _ (some 61) _ = _
         simp only [Act.put, List.setIfInBounds_toArray, List.set_cons_zero, List.set_cons_succ, i64_w, i32_w]
         rfl
        refine pure_ (i := 15) (N := some 4) (v := ?_) (a' := ?_) #[true, true, true, true, true, true, true, true, true, true, true, true, true, true, true, true] rfl rfl (any_of HT_.out (by kernel_rfl)) (fun _ _ _ h => h) (Or.inl ⟨by rfl, ?_⟩) ?_ ?_
        rotate_left
        ·intro w'
         go_simp
         with_reducible rfl
        rotate_left
        ·simp only [Act.put, List.setIfInBounds_toArray, List.set_cons_zero, List.set_cons_succ, i64_w, i32_w]
         rfl
        refine done_ (done_of HT_.out (by kernel_rfl)) ?_
        clear hHeld HT_ HW_
        have hl9 : (insR x ys).length ≤ kk + 1 := Nat.le_trans (insR_len x ys) (by omega)
        have hHe := He.out
        rw [← HI.out] at hHe
        obtain ⟨A9, c9, e9⟩ := Kd.R_slice hHe
        subst e9
        obtain ⟨a9, h9, -⟩ := Kd.at_int (Kd.R_reads' hHe).2.2 0 (Int.le_refl _) (by rw [HI.out]; simp only [List.length_append, List.length_cons, List.length_nil]; omega)
        subst h9
        have HO := Aside0.mk hHe
        have HY9 : Aside0 (∀ y_ ∈ insR x ys, inR y_) := ⟨insR_in HXI.out HYI.out⟩
        clear hHe He HI
        generalize (if c = jj then some ad else some (ad.add jj)) = A60_
        go_wp2
        go_roundg (l0.length - (kk + 1))
        case measure => omega
        case rel => exact ⟨kk + 1, a9, c9, insR x ys, by go_num, by omega, by omega, rfl, hl9, HY9, HRES, HO, HB⟩
    ·have hjz : ¬ (jj : Int) < (ys.length : Int) := by omega
     have hjl : jj ≤ ys.length := hjj
     have hJ := HJ.out
     rw [List.drop_of_length_le (by omega), cntB, Nat.add_zero] at hJ
     have hI : insR x ys = ys.take jj ++ [x] ++ ys.drop jj := by unfold insR; rw [← hJ, if_neg (by rw [List.getElem?_eq_none (by omega)]; simp)]
     have HI := Aside0.mk hI
     have HX0 := Aside0.mk hx0
     clear hJ HJ hI hx0
     go_upto_region 6 with fail
     have hbd := below_drew (Below.refl wr.heap.size wr)
     replace HO := Aside0.mk (Kd.R_below HO.out hbd)
     replace HB := Aside0.mk (HB.out.trans (hbd.mono HB.out.size))
     clear hbd
     generalize hw9 : wr.drew = w20 at *
     refine start_ (n := 15) (S := fun w' => True) (ds := []) #[false, false, false, false, false, false, false, false, false, false, false, false, false, false, false] (by kernel_rfl) rfl rfl trivial (fun hHeld => ?_)
     refine with_tabW so6_tab so6_bits (fun HT_ HW_ => ?_)
     rw [hw9]
     clear hw9
     refine pure_ (i := 0) (N := some 15) (v := ?_) (a' := ?_) #[true, false, false, false, false, false, false, false, false, false, false, false, false, false, false] rfl rfl (any_of HT_.out (by kernel_rfl)) (fun _ _ _ h => h) (Or.inl ⟨by rfl, ?_⟩) ?_ ?_
     rotate_left
     ·intro w'
      go_simp
      with_reducible rfl
     rotate_left
     ·simp only [Act.put, List.setIfInBounds_toArray, List.set_cons_zero, List.set_cons_succ, i64_w, i32_w]
      rfl
     refine pure_ (i := 1) (N := some 16) (v := ?_) (a' := ?_) #[true, true, false, false, false, false, false, false, false, false, false, false, false, false, false] rfl rfl (any_of HT_.out (by kernel_rfl)) (fun _ _ _ h => h) (Or.inl ⟨by rfl, ?_⟩) ?_ ?_
     rotate_left
     ·intro w'
      go_simp
      with_reducible rfl
     rotate_left
     ·simp only [Act.put, List.setIfInBounds_toArray, List.set_cons_zero, List.set_cons_succ, i64_w, i32_w]
      rfl
     refine pure_ (i := 2) (N := some 17) (v := ?_) (a' := ?_) #[true, true, true, false, false, false, false, false, false, false, false, false, false, false, false] rfl rfl (any_of HT_.out (by kernel_rfl)) (fun _ _ _ h => h) (Or.inl ⟨by rfl, ?_⟩) ?_ ?_
     rotate_left
     ·intro w'
      go_simp
      with_reducible rfl
     rotate_left
     ·simp only [Act.put, List.setIfInBounds_toArray, List.set_cons_zero, List.set_cons_succ, i64_w, i32_w]
      rfl
     refine pure_ (i := 3) (N := some 18) (v := ?_) (a' := ?_) #[true, true, true, true, false, false, false, false, false, false, false, false, false, false, false] rfl rfl (any_of HT_.out (by kernel_rfl)) (fun _ _ _ h => h) (Or.inl ⟨by rfl, ?_⟩) ?_ ?_
     rotate_left
     ·intro w'
      go_simp
      with_reducible rfl
     rotate_left
     ·simp only [Act.put, List.setIfInBounds_toArray, List.set_cons_zero, List.set_cons_succ, i64_w, i32_w]
      rfl
     refine pure_ (i := 4) (N := some 19) (v := ?_) (a' := ?_) #[true, true, true, true, true, false, false, false, false, false, false, false, false, false, false] rfl rfl (any_of HT_.out (by kernel_rfl)) (fun _ _ _ h => h) (Or.inl ⟨by rfl, ?_⟩) ?_ ?_
     rotate_left
     ·intro w'
      go_simp
      with_reducible rfl
     rotate_left
     ·simp only [Act.put, List.setIfInBounds_toArray, List.set_cons_zero, List.set_cons_succ, i64_w, i32_w]
      rfl
     refine pure_ (i := 5) (N := some 20) (v := undef) (a' := ?_) #[true, true, true, true, true, true, false, false, false, false, false, false, false, false, false] rfl rfl (any_of HT_.out (by kernel_rfl)) (fun _ _ _ h => h) (Or.inr ⟨by rfl, rfl⟩) ?_ ?_
     rotate_left
     ·simp only [Act.put, List.setIfInBounds_toArray, List.set_cons_zero, List.set_cons_succ, i64_w, i32_w]
      rfl
     refine pure_ (i := 6) (N := some 21) (v := undef) (a' := ?_) #[true, true, true, true, true, true, true, false, false, false, false, false, false, false, false] rfl rfl (any_of HT_.out (by kernel_rfl)) (fun _ _ _ h => h) (Or.inr ⟨by rfl, rfl⟩) ?_ ?_
     rotate_left
     ·simp only [Act.put, List.setIfInBounds_toArray, List.set_cons_zero, List.set_cons_succ, i64_w, i32_w]
      rfl
     refine pure_ (i := 7) (N := some 22) (v := undef) (a' := ?_) #[true, true, true, true, true, true, true, true, false, false, false, false, false, false, false] rfl rfl (any_of HT_.out (by kernel_rfl)) (fun _ _ _ h => h) (Or.inr ⟨by rfl, rfl⟩) ?_ ?_
     rotate_left
     ·simp only [Act.put, List.setIfInBounds_toArray, List.set_cons_zero, List.set_cons_succ, i64_w, i32_w]
      rfl
     refine pure_ (i := 8) (N := some 23) (v := undef) (a' := ?_) #[true, true, true, true, true, true, true, true, true, false, false, false, false, false, false] rfl rfl (any_of HT_.out (by kernel_rfl)) (fun _ _ _ h => h) (Or.inr ⟨by rfl, rfl⟩) ?_ ?_
     rotate_left
     ·simp only [Act.put, List.setIfInBounds_toArray, List.set_cons_zero, List.set_cons_succ, i64_w, i32_w]
      rfl
     refine pure_ (i := 9) (N := some 24) (v := undef) (a' := ?_) #[true, true, true, true, true, true, true, true, true, true, false, false, false, false, false] rfl rfl (any_of HT_.out (by kernel_rfl)) (fun _ _ _ h => h) (Or.inr ⟨by rfl, rfl⟩) ?_ ?_
     rotate_left
     ·simp only [Act.put, List.setIfInBounds_toArray, List.set_cons_zero, List.set_cons_succ, i64_w, i32_w]
      rfl
     refine pure_ (i := 10) (N := some 25) (v := undef) (a' := ?_) #[true, true, true, true, true, true, true, true, true, true, true, false, false, false, false] rfl rfl (any_of HT_.out (by kernel_rfl)) (fun _ _ _ h => h) (Or.inr ⟨by rfl, rfl⟩) ?_ ?_
     rotate_left
     ·simp only [Act.put, List.setIfInBounds_toArray, List.set_cons_zero, List.set_cons_succ, i64_w, i32_w]
      rfl
     refine pure_ (i := 11) (N := some 26) (v := undef) (a' := ?_) #[true, true, true, true, true, true, true, true, true, true, true, true, false, false, false] rfl rfl (any_of HT_.out (by kernel_rfl)) (fun _ _ _ h => h) (Or.inr ⟨by rfl, rfl⟩) ?_ ?_
     rotate_left
     ·simp only [Act.put, List.setIfInBounds_toArray, List.set_cons_zero, List.set_cons_succ, i64_w, i32_w]
      rfl
     refine pure_ (i := 12) (N := some 27) (v := undef) (a' := ?_) #[true, true, true, true, true, true, true, true, true, true, true, true, true, false, false] rfl rfl (any_of HT_.out (by kernel_rfl)) (fun _ _ _ h => h) (Or.inr ⟨by rfl, rfl⟩) ?_ ?_
     rotate_left
     ·simp only [Act.put, List.setIfInBounds_toArray, List.set_cons_zero, List.set_cons_succ, i64_w, i32_w]
      rfl
     refine one_ (i := 13) (N := some 28) #[true, true, true, true, true, true, true, true, true, true, true, true, true, true, false] rfl rfl (one_of HT_.out (by kernel_rfl)) (by decide) (fun K hK => ?_)
     refine off_ (by rfl) ?_
     refine hK.out _ _ trivial (fun hHeld => ?_)
     clear hK K
     refine norm_ (a' := ?_) ?_ ?_
     rotate_left
     ·show Act.put _ (some 28) _ = _
      simp only [Act.put, List.setIfInBounds_toArray, List.set_cons_zero, List.set_cons_succ, i64_w, i32_w]
      rfl
     refine pure_ (i := 14) (N := some 29) (v := ?_) (a' := ?_) #[true, true, true, true, true, true, true, true, true, true, true, true, true, true, true] rfl rfl (any_of HT_.out (by kernel_rfl)) (fun _ _ _ h => h) (Or.inl ⟨by rfl, ?_⟩) ?_ ?_
     rotate_left
     ·intro w'
      go_simp
      with_reducible rfl
     rotate_left
     ·simp only [Act.put, List.setIfInBounds_toArray, List.set_cons_zero, List.set_cons_succ, i64_w, i32_w]
      rfl
     refine done_ (done_of HT_.out (by kernel_rfl)) ?_
     clear hHeld HT_ HW_
     go_upto_region 8 with fail
     obtain ⟨wr3, hwr3⟩ : ∃ z : World, z = w20 := ⟨_, rfl⟩
     subst hwr3
     have hbd := below_drew (Below.refl wr3.heap.size wr3)
     replace HO := Aside0.mk (Kd.R_below HO.out hbd)
     replace HB := Aside0.mk (HB.out.trans (hbd.mono HB.out.size))
     clear hbd
     generalize hw9 : wr3.drew = w30 at *
     refine start_ (n := 15) (S := fun w' => True) (ds := []) #[false, false, false, false, false, false, false, false, false, false, false, false, false, false, false] (by kernel_rfl) rfl rfl trivial (fun hHeld => ?_)
     refine with_tabW so8_tab so8_bits (fun HT_ HW_ => ?_)
     rw [hw9]
     clear hw9
     refine pure_ (i := 0) (N := some 32) (v := ?_) (a' := ?_) #[true, false, false, false, false, false, false, false, false, false, false, false, false, false, false] rfl rfl (any_of HT_.out (by kernel_rfl)) (fun _ _ _ h => h) (Or.inl ⟨by rfl, ?_⟩) ?_ ?_
     rotate_left
     ·intro w'
      go_simp
      with_reducible rfl
     rotate_left
     ·simp only [Act.put, List.setIfInBounds_toArray, List.set_cons_zero, List.set_cons_succ, i64_w, i32_w]
      rfl
     refine pure_ (i := 1) (N := some 33) (v := ?_) (a' := ?_) #[true, true, false, false, false, false, false, false, false, false, false, false, false, false, false] rfl rfl (any_of HT_.out (by kernel_rfl)) (fun _ _ _ h => h) (Or.inl ⟨by rfl, ?_⟩) ?_ ?_
     rotate_left
     ·intro w'
      go_simp
      with_reducible rfl
     rotate_left
     ·simp only [Act.put, List.setIfInBounds_toArray, List.set_cons_zero, List.set_cons_succ, i64_w, i32_w]
      rfl
     refine pure_ (i := 2) (N := some 34) (v := ?_) (a' := ?_) #[true, true, true, false, false, false, false, false, false, false, false, false, false, false, false] rfl rfl (any_of HT_.out (by kernel_rfl)) (fun _ _ _ h => h) (Or.inl ⟨by rfl, ?_⟩) ?_ ?_
     rotate_left
     ·intro w'
      go_simp
      with_reducible rfl
     rotate_left
     ·simp only [Act.put, List.setIfInBounds_toArray, List.set_cons_zero, List.set_cons_succ, i64_w, i32_w]
      rfl
     refine pure_ (i := 3) (N := some 35) (v := ?_) (a' := ?_) #[true, true, true, true, false, false, false, false, false, false, false, false, false, false, false] rfl rfl (any_of HT_.out (by kernel_rfl)) (fun _ _ _ h => h) (Or.inl ⟨by rfl, ?_⟩) ?_ ?_
     rotate_left
     ·intro w'
      go_simp
      with_reducible rfl
     rotate_left
     ·simp only [Act.put, List.setIfInBounds_toArray, List.set_cons_zero, List.set_cons_succ, i64_w, i32_w]
      rfl
     refine pure_ (i := 4) (N := some 36) (v := ?_) (a' := ?_) #[true, true, true, true, true, false, false, false, false, false, false, false, false, false, false] rfl rfl (any_of HT_.out (by kernel_rfl)) (fun _ _ _ h => h) (Or.inl ⟨by rfl, ?_⟩) ?_ ?_
     rotate_left
     ·intro w'
      go_simp
      with_reducible rfl
     rotate_left
     ·simp only [Act.put, List.setIfInBounds_toArray, List.set_cons_zero, List.set_cons_succ, i64_w, i32_w]
      rfl
     refine pure_ (i := 5) (N := some 37) (v := undef) (a' := ?_) #[true, true, true, true, true, true, false, false, false, false, false, false, false, false, false] rfl rfl (any_of HT_.out (by kernel_rfl)) (fun _ _ _ h => h) (Or.inr ⟨by rfl, rfl⟩) ?_ ?_
     rotate_left
     ·simp only [Act.put, List.setIfInBounds_toArray, List.set_cons_zero, List.set_cons_succ, i64_w, i32_w]
      rfl
     refine pure_ (i := 6) (N := some 38) (v := undef) (a' := ?_) #[true, true, true, true, true, true, true, false, false, false, false, false, false, false, false] rfl rfl (any_of HT_.out (by kernel_rfl)) (fun _ _ _ h => h) (Or.inr ⟨by rfl, rfl⟩) ?_ ?_
     rotate_left
     ·simp only [Act.put, List.setIfInBounds_toArray, List.set_cons_zero, List.set_cons_succ, i64_w, i32_w]
      rfl
     refine pure_ (i := 7) (N := some 39) (v := undef) (a' := ?_) #[true, true, true, true, true, true, true, true, false, false, false, false, false, false, false] rfl rfl (any_of HT_.out (by kernel_rfl)) (fun _ _ _ h => h) (Or.inr ⟨by rfl, rfl⟩) ?_ ?_
     rotate_left
     ·simp only [Act.put, List.setIfInBounds_toArray, List.set_cons_zero, List.set_cons_succ, i64_w, i32_w]
      rfl
     refine pure_ (i := 8) (N := some 40) (v := undef) (a' := ?_) #[true, true, true, true, true, true, true, true, true, false, false, false, false, false, false] rfl rfl (any_of HT_.out (by kernel_rfl)) (fun _ _ _ h => h) (Or.inr ⟨by rfl, rfl⟩) ?_ ?_
     rotate_left
     ·simp only [Act.put, List.setIfInBounds_toArray, List.set_cons_zero, List.set_cons_succ, i64_w, i32_w]
      rfl
     refine pure_ (i := 9) (N := some 41) (v := undef) (a' := ?_) #[true, true, true, true, true, true, true, true, true, true, false, false, false, false, false] rfl rfl (any_of HT_.out (by kernel_rfl)) (fun _ _ _ h => h) (Or.inr ⟨by rfl, rfl⟩) ?_ ?_
     rotate_left
     ·simp only [Act.put, List.setIfInBounds_toArray, List.set_cons_zero, List.set_cons_succ, i64_w, i32_w]
      rfl
     refine pure_ (i := 10) (N := some 42) (v := undef) (a' := ?_) #[true, true, true, true, true, true, true, true, true, true, true, false, false, false, false] rfl rfl (any_of HT_.out (by kernel_rfl)) (fun _ _ _ h => h) (Or.inr ⟨by rfl, rfl⟩) ?_ ?_
     rotate_left
     ·simp only [Act.put, List.setIfInBounds_toArray, List.set_cons_zero, List.set_cons_succ, i64_w, i32_w]
      rfl
     refine pure_ (i := 11) (N := some 43) (v := undef) (a' := ?_) #[true, true, true, true, true, true, true, true, true, true, true, true, false, false, false] rfl rfl (any_of HT_.out (by kernel_rfl)) (fun _ _ _ h => h) (Or.inr ⟨by rfl, rfl⟩) ?_ ?_
     rotate_left
     ·simp only [Act.put, List.setIfInBounds_toArray, List.set_cons_zero, List.set_cons_succ, i64_w, i32_w]
      rfl
     refine pure_ (i := 12) (N := some 44) (v := undef) (a' := ?_) #[true, true, true, true, true, true, true, true, true, true, true, true, true, false, false] rfl rfl (any_of HT_.out (by kernel_rfl)) (fun _ _ _ h => h) (Or.inr ⟨by rfl, rfl⟩) ?_ ?_
     rotate_left
     ·simp only [Act.put, List.setIfInBounds_toArray, List.set_cons_zero, List.set_cons_succ, i64_w, i32_w]
      rfl
     refine pure_ (i := 13) (N := some 45) (v := undef) (a' := ?_) #[true, true, true, true, true, true, true, true, true, true, true, true, true, true, false] rfl rfl (any_of HT_.out (by kernel_rfl)) (fun _ _ _ h => h) (Or.inr ⟨by rfl, rfl⟩) ?_ ?_
     rotate_left
     ·simp only [Act.put, List.setIfInBounds_toArray, List.set_cons_zero, List.set_cons_succ, i64_w, i32_w]
      rfl
     refine pure_ (i := 14) (N := some 46) (v := ?_) (a' := ?_) #[true, true, true, true, true, true, true, true, true, true, true, true, true, true, true] rfl rfl (any_of HT_.out (by kernel_rfl)) (fun _ _ _ h => h) (Or.inl ⟨by rfl, ?_⟩) ?_ ?_
     rotate_left
     ·intro w'
      go_simp
      with_reducible rfl
     rotate_left
     ·simp only [Act.put, List.setIfInBounds_toArray, List.set_cons_zero, List.set_cons_succ, i64_w, i32_w]
      rfl
     refine done_ (done_of HT_.out (by kernel_rfl)) ?_
     clear hHeld HT_ HW_
     go_upto_region 9 with fail
     have hx0 := HX0.out
     clear HX0
     obtain ⟨wr3, hwr3⟩ : ∃ z : World, z = w30 := ⟨_, rfl⟩
     subst hwr3
     have hjc : jj ≤ c := Nat.le_trans hjl (R_cap HO.out)
     have hbd := below_drew (Below.refl wr3.heap.size wr3)
     replace HO := Aside0.mk (Kd.R_below HO.out hbd)
     replace HB := Aside0.mk (HB.out.trans (hbd.mono HB.out.size))
     clear hbd
     generalize hw9 : wr3.drew = w30 at *
     have hx30 := ((HB.out.cell (World.block_lt_of_cell? w _ hx0)).trans hx0)
     refine start_ (n := 16) (S := fun w' => w'.cell? (adc.add kk) = some (.int .i64 x)) (ds := []) #[false, false, false, false, false, false, false, false, false, false, false, false, false, false, false, false] (by kernel_rfl) rfl rfl (by rw [hw9]; exact hx30) (fun hHeld => ?_)
     refine with_tabW so9_tab so9_bits (fun HT_ HW_ => ?_)
     rw [hw9] at hHeld ⊢
     clear hw9
     have HOU := Aside0.mk (Kd.R_mono (ok' := fun k_ => k_ < w30.heap.size) (Kd.R_bound HO.out) (fun k_ hk_ => hk_.2.2.1))
     clear HO hx30
     obtain ⟨SZ, hSZ⟩ : ∃ s, w30.heap.size = s := ⟨_, rfl⟩
     rw [hSZ] at HOU
     have HSZ := Aside0.mk (Nat.le_of_eq hSZ.symm)
     clear hSZ
     refine pure_ (i := 1) (N := some 48) (v := ?_) (a' := ?_) #[false, true, false, false, false, false, false, false, false, false, false, false, false, false, false, false] rfl rfl (any_of HT_.out (by kernel_rfl)) (fun _ _ _ h => h) (Or.inl ⟨by rfl, ?_⟩) ?_ ?_
     rotate_left
     ·intro w'
      go_simp
      with_reducible rfl
     rotate_left
     ·simp only [Act.put, List.setIfInBounds_toArray, List.set_cons_zero, List.set_cons_succ, i64_w, i32_w]
      rfl
     refine pure_ (i := 2) (N := some 49) (v := ?_) (a' := ?_) #[false, true, true, false, false, false, false, false, false, false, false, false, false, false, false, false] rfl rfl (any_of HT_.out (by kernel_rfl)) (fun _ _ _ h => h) (Or.inl ⟨by rfl, ?_⟩) ?_ ?_
     rotate_left
     ·intro w'
      go_simp
      with_reducible rfl
     rotate_left
     ·simp only [Act.put, List.setIfInBounds_toArray, List.set_cons_zero, List.set_cons_succ, i64_w, i32_w]
      rfl
     refine pure_ (i := 3) (N := some 50) (v := ?_) (a' := ?_) #[false, true, true, true, false, false, false, false, false, false, false, false, false, false, false, false] rfl rfl (any_of HT_.out (by kernel_rfl)) (fun _ _ _ h => h) (Or.inl ⟨by rfl, ?_⟩) ?_ ?_
     rotate_left
     ·intro w'
      go_simp
      with_reducible rfl
     rotate_left
     ·simp only [Act.put, List.setIfInBounds_toArray, List.set_cons_zero, List.set_cons_succ, i64_w, i32_w]
      rfl
     refine pure_ (i := 5) (N := some 52) (v := ?_) (a' := ?_) #[false, true, true, true, false, true, false, false, false, false, false, false, false, false, false, false] rfl rfl (any_of HT_.out (by kernel_rfl)) (fun _ _ _ h => h) (Or.inl ⟨by rfl, ?_⟩) ?_ ?_
     rotate_left
     ·intro w'
      go_simp
      with_reducible rfl
     rotate_left
     ·simp only [Act.put, List.setIfInBounds_toArray, List.set_cons_zero, List.set_cons_succ, i64_w, i32_w]
      rfl
     refine pure_ (i := 6) (N := some 53) (v := ?_) (a' := ?_) #[false, true, true, true, false, true, true, false, false, false, false, false, false, false, false, false] rfl rfl (any_of HT_.out (by kernel_rfl)) (fun _ _ _ h => h) (Or.inl ⟨by rfl, ?_⟩) ?_ ?_
     rotate_left
     ·intro w'
      go_simp
      with_reducible rfl
     rotate_left
     ·simp only [Act.put, List.setIfInBounds_toArray, List.set_cons_zero, List.set_cons_succ, i64_w, i32_w]
      rfl
     refine pure_ (i := 7) (N := some 54) (v := ?_) (a' := ?_) #[false, true, true, true, false, true, true, true, false, false, false, false, false, false, false, false] rfl rfl (any_of HT_.out (by kernel_rfl)) (fun _ _ _ h => h) (Or.inl ⟨by rfl, ?_⟩) ?_ ?_
     rotate_left
     ·intro w'
      go_simp
      with_reducible rfl
     rotate_left
     ·simp only [Act.put, List.setIfInBounds_toArray, List.set_cons_zero, List.set_cons_succ, i64_w, i32_w]
      rfl
     refine pure_ (i := 11) (N := some 58) (v := ?_) (a' := ?_) #[false, true, true, true, false, true, true, true, false, false, false, true, false, false, false, false] rfl rfl (any_of HT_.out (by kernel_rfl)) (fun _ _ _ h => h) (Or.inl ⟨by rfl, ?_⟩) ?_ ?_
     rotate_left
     ·intro w'
      go_simp
      with_reducible rfl
     rotate_left
     ·simp only [Act.put, List.setIfInBounds_toArray, List.set_cons_zero, List.set_cons_succ, i64_w, i32_w]
      rfl
     refine pure_ (i := 12) (N := some 59) (v := ?_) (a' := ?_) #[false, true, true, true, false, true, true, true, false, false, false, true, true, false, false, false] rfl rfl (any_of HT_.out (by kernel_rfl)) (fun _ _ _ h => h) (Or.inl ⟨by rfl, ?_⟩) ?_ ?_
     rotate_left
     ·intro w'
      go_simp
      with_reducible rfl
     rotate_left
     ·simp only [Act.put, List.setIfInBounds_toArray, List.set_cons_zero, List.set_cons_succ, i64_w, i32_w]
      rfl
     refine pure_ (i := 13) (N := some 60) (v := ?_) (a' := ?_) #[false, true, true, true, false, true, true, true, false, false, false, true, true, true, false, false] rfl rfl (any_of HT_.out (by kernel_rfl)) (fun _ _ _ h => h) (Or.inl ⟨by rfl, ?_⟩) ?_ ?_
     rotate_left
     ·intro w'
      go_simp
      with_reducible rfl
     rotate_left
     ·simp only [Act.put, List.setIfInBounds_toArray, List.set_cons_zero, List.set_cons_succ, i64_w, i32_w]
      rfl
     refine take_ (i := 8) (N := some 55) (v := ?_) (a' := ?_) #[false, true, true, true, false, true, true, true, true, false, false, true, true, true, false, false] rfl rfl (take_ofW HT_.out HW_.out (by kernel_rfl)) (fun _ _ _ h => h) (Or.inl ⟨by rfl, ?_⟩) hHeld ?_ ?_
     rotate_left
     ·intro w' s0
      go_simp
      with_reducible rfl
     rotate_left
     ·simp only [Act.put, List.setIfInBounds_toArray, List.set_cons_zero, List.set_cons_succ, i64_w, i32_w]
      rfl
     refine two_ (i := 0) (j := 9) (Ni := some 47) (Nj := some 56) #[true, true, true, true, false, true, true, true, true, false, false, true, true, true, false, false] #[false, true, true, true, false, true, true, true, true, true, false, true, true, true, false, false] rfl rfl rfl rfl (two_of HT_.out (by kernel_rfl)) (by decide) (by decide) (fun K hK => ?_) (fun K hK => ?_)
     ·refine Kd.R_lit_step (Kd.int .i64) (w0 := w) w.heap.size 3 (by rfl) (N := 47) rfl (xs := ([] : List Int)) (inner := []) (ok := fun k_ => SZ ≤ k_) (okp := fun _ => False) (by go_simp; done) (Reps.none _ _) (fun _ hk => hk.elim) HSZ.out HB.out HB.out.size (by simp) ?_
      intro va w31 hr hb_ hg_ hat_
      replace HOU := Aside0.mk (Kd.R_grown HOU.out hg_ (fun _ _ hk => by cases hk))
      replace HSZ := Aside0.mk (Nat.le_trans HSZ.out hg_.size)
      replace HB := Aside0.mk hb_
      have Ha := Aside0.mk hr
      clear hr hb_ hg_ hat_
      refine hK.out _ _ ((HB.out.cell (World.block_lt_of_cell? w _ hx0)).trans hx0) (fun hHeld => ?_)
      clear hK K
      refine norm_ (a' := ?_) ?_ ?_
      rotate_left
      ·show Act.put _ (some 47) _ = _
       simp only [Act.put, List.setIfInBounds_toArray, List.set_cons_zero, List.set_cons_succ, i64_w, i32_w]
       rfl
      refine two_ (i := 4) (j := 9) (Ni := some 51) (Nj := some 56) #[true, true, true, true, true, true, true, true, true, false, false, true, true, true, false, false] #[true, true, true, true, false, true, true, true, true, true, false, true, true, true, false, false] rfl rfl rfl rfl (two_of HT_.out (by kernel_rfl)) (by decide) (by decide) (fun K hK => ?_) (fun K hK => ?_)
      ·have HSZ0 := HSZ
       have Ha2 := Aside0.mk (Kd.R_mono (ok' := fun k_ => SZ ≤ k_ ∨ w31.heap.size ≤ k_) Ha.out (fun k_ hk_ => .inl hk_))
       refine Kd.R_append_rows_step (Kd.int .i64) (w0 := w) w.heap.size (by rfl) (.tmp 47) (.tmp 50) 37 3 (.int .i64 0) 8 rfl Try.underlying37 info3 rfl (by decide) (by omega) _ _ _ _ _ _ _ (fun _ => False) rfl rfl Ha2.out ((R_ctake HOU.out hjl)) (fun _ _ h => h) (fun _ h => h.elim) (fun k_ hk_ => .inr hk_) HB.out HB.out.size (by simp only [List.length_nil]; omega) ?_
       intro vb w32 hr hb_ hg_ hat_
       rw [List.nil_append] at hr
       replace HOU := Aside0.mk (Kd.R_grown HOU.out hg_ (fun k_ hk_ e_ => Nat.not_lt.2 (Ha.out.1 k_ e_.symm) hk_))
       replace HSZ := Aside0.mk (Nat.le_trans HSZ.out hg_.size)
       replace HB := Aside0.mk hb_
       have Hb := Aside0.mk hr
       clear hr hb_ hg_ hat_
       replace Hb := Aside0.mk (Kd.R_mono (ok' := fun k_ => SZ ≤ k_) Hb.out (fun k_ hk_ => hk_.elim id (fun h_ => Nat.le_trans HSZ0.out h_)))
       clear Ha Ha2 HSZ0
       refine hK.out _ _ ((HB.out.cell (World.block_lt_of_cell? w _ hx0)).trans hx0) (fun hHeld => ?_)
       clear hK K
       refine norm_ (a' := ?_) ?_ ?_
       rotate_left
       ·show Act.put _ (some 51) _ = _
        simp only [Act.put, List.setIfInBounds_toArray, List.set_cons_zero, List.set_cons_succ, i64_w, i32_w]
        rfl
       refine one_ (i := 9) (N := some 56) #[true, true, true, true, true, true, true, true, true, true, false, true, true, true, false, false] rfl rfl (one_of HT_.out (by kernel_rfl)) (by decide) (fun K hK => ?_)
       refine Kd.R_lit_step (Kd.int .i64) (w0 := w) w.heap.size 3 (by rfl) (N := 56) rfl (xs := ([x] : List Int)) (inner := [.int .i64 x]) (ok := fun _ => True) (okp := fun _ => False) (by go_simp; done) (Kd.reps_scalar [x]) (fun _ hk => hk.elim) trivial HB.out HB.out.size (by simp) ?_
       intro vc w33 hr hb_ hg_ hat_
       replace HOU := Aside0.mk (Kd.R_grown HOU.out hg_ (fun _ _ hk => by cases hk))
       replace Hb := Aside0.mk (Kd.R_grown Hb.out hg_ (fun _ _ hk => by cases hk))
       replace HSZ := Aside0.mk (Nat.le_trans HSZ.out hg_.size)
       replace HB := Aside0.mk hb_
       have Hc := Aside0.mk hr
       clear hr hb_ hg_ hat_
       refine hK.out _ _ ((HB.out.cell (World.block_lt_of_cell? w _ hx0)).trans hx0) (fun hHeld => ?_)
       clear hK K
       refine norm_ (a' := ?_) ?_ ?_
       rotate_left
       ·show Act.put _ (some 56) _ = _
        simp only [Act.put, List.setIfInBounds_toArray, List.set_cons_zero, List.set_cons_succ, i64_w, i32_w]
        rfl
       obtain ⟨Ac_, cc_, ec_⟩ := Kd.R_slice Hc.out
       subst ec_
       replace Hb := Aside0.mk (Kd.R_mono (ok' := fun k_ => SZ ≤ k_ ∨ w33.heap.size ≤ k_) Hb.out (fun k_ hk_ => .inl hk_))
       refine one_ (i := 10) (N := some 57) #[true, true, true, true, true, true, true, true, true, true, true, true, true, true, false, false] rfl rfl (one_of HT_.out (by kernel_rfl)) (by decide) (fun K hK => ?_)
       refine Kd.R_append_rows_step (Kd.int .i64) (w0 := w) w.heap.size (by rfl) (.tmp 51) (.tmp 56) 37 3 (.int .i64 0) 8 rfl Try.underlying37 info3 rfl (by decide) (by omega) _ _ _ _ _ _ _ (fun _ => False) rfl rfl Hb.out ((Kd.R_reads' Hc.out).2.2) (fun _ _ h => h) (fun _ h => h.elim) (fun k_ hk_ => .inr hk_) HB.out HB.out.size (by simp only [List.length_take, List.length_cons, List.length_nil]; omega) ?_
       intro vd w37 hr hb_ hg_ hat_
       replace HOU := Aside0.mk (Kd.R_grown HOU.out hg_ (fun k_ hk_ e_ => (Hb.out.1 k_ e_.symm).elim (fun h_ => Nat.not_lt.2 h_ hk_) (fun h_ => Nat.not_lt.2 (Nat.le_trans HSZ.out h_) hk_)))
       replace HSZ := Aside0.mk (Nat.le_trans HSZ.out hg_.size)
       replace HB := Aside0.mk hb_
       have Hd := Aside0.mk hr
       clear hr hb_ hg_ hat_
       clear Hb Hc
       refine hK.out _ _ ((HB.out.cell (World.block_lt_of_cell? w _ hx0)).trans hx0) (fun hHeld => ?_)
       clear hK K
       refine norm_ (a' := ?_) ?_ ?_
       rotate_left
       ·show Act.put _ (some 57) _ = _
        simp only [Act.put, List.setIfInBounds_toArray, List.set_cons_zero, List.set_cons_succ, i64_w, i32_w]
        rfl
       replace Hd := Aside0.mk (Kd.R_mono (ok' := fun k_ => True) Hd.out (fun k_ hk_ => trivial))
       refine one_ (i := 14) (N := some 61) #[true, true, true, true, true, true, true, true, true, true, true, true, true, true, true, false] rfl rfl (one_of HT_.out (by kernel_rfl)) (by decide) (fun K hK => ?_)
       refine Kd.R_append_rows_step (Kd.int .i64) (w0 := w) w.heap.size (by rfl) (.tmp 57) (.tmp 60) 37 3 (.int .i64 0) 8 rfl Try.underlying37 info3 rfl (by decide) (by omega) _ _ _ _ _ _ _ (fun _ => False) rfl rfl Hd.out ((R_cdrop HOU.out hjl (R_cap HOU.out))) (fun _ _ h => h) (fun _ h => h.elim) (fun k_ hk_ => trivial) HB.out HB.out.size (by simp only [List.length_append, List.length_take, List.length_cons, List.length_nil]; omega) ?_
       intro ve w38 hr hb_ hg_ hat_
       replace HSZ := Aside0.mk (Nat.le_trans HSZ.out hg_.size)
       replace HB := Aside0.mk hb_
       have He := Aside0.mk hr
       clear hr hb_ hg_ hat_
       clear Hd HOU HSZ SZ
       refine hK.out _ _ ((HB.out.cell (World.block_lt_of_cell? w _ hx0)).trans hx0) (fun hHeld => ?_)
       clear hK K
       refine norm_ (a' := ?_) ?_ ?_
       rotate_left
       ·show Act.put _ (some 61) _ = _
        simp only [Act.put, List.setIfInBounds_toArray, List.set_cons_zero, List.set_cons_succ, i64_w, i32_w]
        rfl
       refine pure_ (i := 15) (N := some 4) (v := ?_) (a' := ?_) #[true, true, true, true, true, true, true, true, true, true, true, true, true, true, true, true] rfl rfl (any_of HT_.out (by kernel_rfl)) (fun _ _ _ h => h) (Or.inl ⟨by rfl, ?_⟩) ?_ ?_
       rotate_left
       ·intro w'
        go_simp
        with_reducible rfl
       rotate_left
       ·simp only [Act.put, List.setIfInBounds_toArray, List.set_cons_zero, List.set_cons_succ, i64_w, i32_w]
        rfl
       refine done_ (done_of HT_.out (by kernel_rfl)) ?_
       clear hHeld HT_ HW_
       have hl9 : (insR x ys).length ≤ kk + 1 := Nat.le_trans (insR_len x ys) (by omega)
       have hHe := He.out
       rw [← HI.out] at hHe
       obtain ⟨A9, c9, e9⟩ := Kd.R_slice hHe
       subst e9
       obtain ⟨a9, h9, -⟩ := Kd.at_int (Kd.R_reads' hHe).2.2 0 (Int.le_refl _) (by rw [HI.out]; simp only [List.length_append, List.length_cons, List.length_nil]; omega)
       subst h9
       have HO := Aside0.mk hHe
       have HY9 : Aside0 (∀ y_ ∈ insR x ys, inR y_) := ⟨insR_in HXI.out HYI.out⟩
       clear hHe He HI
       generalize (if c = jj then some ad else some (ad.add jj)) = A60_
       go_wp2
       go_roundg (l0.length - (kk + 1))
       case measure => omega
       case rel => exact ⟨kk + 1, a9, c9, insR x ys, by go_num, by omega, by omega, rfl, hl9, HY9, HRES, HO, HB⟩
      ·replace Ha := Aside0.mk (Kd.R_bound Ha.out)
       obtain ⟨L, hL⟩ : ∃ s, w31.heap.size = s := ⟨_, rfl⟩
       have HL0 := Aside0.mk hL
       refine Kd.R_lit_step (Kd.int .i64) (w0 := w) w.heap.size 3 (by rfl) (N := 56) rfl (xs := ([x] : List Int)) (inner := [.int .i64 x]) (ok := fun k_ => w31.heap.size ≤ k_) (okp := fun _ => False) (by go_simp; done) (Kd.reps_scalar [x]) (fun _ hk => hk.elim) (Nat.le_refl _) HB.out HB.out.size (by simp) ?_
       intro vc w32 hr hb_ hg_ hat_
       replace HOU := Aside0.mk (Kd.R_grown HOU.out hg_ (fun _ _ hk => by cases hk))
       replace Ha := Aside0.mk (Kd.R_grown Ha.out hg_ (fun _ _ hk => by cases hk))
       replace HSZ := Aside0.mk (Nat.le_trans HSZ.out hg_.size)
       replace HB := Aside0.mk hb_
       have Hc := Aside0.mk hr
       clear hr hb_ hg_ hat_
       clear HL0 hL L
       refine hK.out _ _ ((HB.out.cell (World.block_lt_of_cell? w _ hx0)).trans hx0) (fun hHeld => ?_)
       clear hK K
       refine norm_ (a' := ?_) ?_ ?_
       rotate_left
       ·show Act.put _ (some 56) _ = _
        simp only [Act.put, List.setIfInBounds_toArray, List.set_cons_zero, List.set_cons_succ, i64_w, i32_w]
        rfl
       have HSZ0 := HSZ
       have Ha2 := Aside0.mk (Kd.R_mono (ok' := fun k_ => SZ ≤ k_ ∨ w32.heap.size ≤ k_) Ha.out (fun k_ hk_ => .inl hk_.1))
       refine one_ (i := 4) (N := some 51) #[true, true, true, true, true, true, true, true, true, true, false, true, true, true, false, false] rfl rfl (one_of HT_.out (by kernel_rfl)) (by decide) (fun K hK => ?_)
       refine Kd.R_append_rows_step (Kd.int .i64) (w0 := w) w.heap.size (by rfl) (.tmp 47) (.tmp 50) 37 3 (.int .i64 0) 8 rfl Try.underlying37 info3 rfl (by decide) (by omega) _ _ _ _ _ _ _ (fun _ => False) rfl rfl Ha2.out ((R_ctake HOU.out hjl)) (fun _ _ h => h) (fun _ h => h.elim) (fun k_ hk_ => .inr hk_) HB.out HB.out.size (by simp only [List.length_nil]; omega) ?_
       intro vb w33 hr hb_ hg_ hat_
       rw [List.nil_append] at hr
       replace HOU := Aside0.mk (Kd.R_grown HOU.out hg_ (fun k_ hk_ e_ => Nat.not_lt.2 (Ha.out.1 k_ e_.symm).1 hk_))
       replace Hc := Aside0.mk (Kd.R_grown Hc.out hg_ (fun k_ hk_ e_ => Nat.not_lt.2 hk_ (Ha.out.1 k_ e_.symm).2.2.1))
       replace HSZ := Aside0.mk (Nat.le_trans HSZ.out hg_.size)
       replace HB := Aside0.mk hb_
       have Hb := Aside0.mk hr
       clear hr hb_ hg_ hat_
       replace Hb := Aside0.mk (Kd.R_mono (ok' := fun k_ => SZ ≤ k_) Hb.out (fun k_ hk_ => hk_.elim id (fun h_ => Nat.le_trans HSZ0.out h_)))
       clear Ha Ha2 HSZ0
       refine hK.out _ _ ((HB.out.cell (World.block_lt_of_cell? w _ hx0)).trans hx0) (fun hHeld => ?_)
       clear hK K
       refine norm_ (a' := ?_) ?_ ?_
       rotate_left
       ·show Act.put _ (some 51) _ = _
        simp only [Act.put, List.setIfInBounds_toArray, List.set_cons_zero, List.set_cons_succ, i64_w, i32_w]
        rfl
       obtain ⟨Ac_, cc_, ec_⟩ := Kd.R_slice Hc.out
       subst ec_
       replace Hb := Aside0.mk (Kd.R_mono (ok' := fun k_ => SZ ≤ k_ ∨ w33.heap.size ≤ k_) Hb.out (fun k_ hk_ => .inl hk_))
       refine one_ (i := 10) (N := some 57) #[true, true, true, true, true, true, true, true, true, true, true, true, true, true, false, false] rfl rfl (one_of HT_.out (by kernel_rfl)) (by decide) (fun K hK => ?_)
       refine Kd.R_append_rows_step (Kd.int .i64) (w0 := w) w.heap.size (by rfl) (.tmp 51) (.tmp 56) 37 3 (.int .i64 0) 8 rfl Try.underlying37 info3 rfl (by decide) (by omega) _ _ _ _ _ _ _ (fun _ => False) rfl rfl Hb.out ((Kd.R_reads' Hc.out).2.2) (fun _ _ h => h) (fun _ h => h.elim) (fun k_ hk_ => .inr hk_) HB.out HB.out.size (by simp only [List.length_take, List.length_cons, List.length_nil]; omega) ?_
       intro vd w37 hr hb_ hg_ hat_
       replace HOU := Aside0.mk (Kd.R_grown HOU.out hg_ (fun k_ hk_ e_ => (Hb.out.1 k_ e_.symm).elim (fun h_ => Nat.not_lt.2 h_ hk_) (fun h_ => Nat.not_lt.2 (Nat.le_trans HSZ.out h_) hk_)))
       replace HSZ := Aside0.mk (Nat.le_trans HSZ.out hg_.size)
       replace HB := Aside0.mk hb_
       have Hd := Aside0.mk hr
       clear hr hb_ hg_ hat_
       clear Hb Hc
       refine hK.out _ _ ((HB.out.cell (World.block_lt_of_cell? w _ hx0)).trans hx0) (fun hHeld => ?_)
       clear hK K
       refine norm_ (a' := ?_) ?_ ?_
       rotate_left
       ·show Act.put _ (some 57) _ = _
        simp only [Act.put, List.setIfInBounds_toArray, List.set_cons_zero, List.set_cons_succ, i64_w, i32_w]
        rfl
       replace Hd := Aside0.mk (Kd.R_mono (ok' := fun k_ => True) Hd.out (fun k_ hk_ => trivial))
       refine one_ (i := 14) (N := some 61) #[true, true, true, true, true, true, true, true, true, true, true, true, true, true, true, false] rfl rfl (one_of HT_.out (by kernel_rfl)) (by decide) (fun K hK => ?_)
       refine Kd.R_append_rows_step (Kd.int .i64) (w0 := w) w.heap.size (by rfl) (.tmp 57) (.tmp 60) 37 3 (.int .i64 0) 8 rfl Try.underlying37 info3 rfl (by decide) (by omega) _ _ _ _ _ _ _ (fun _ => False) rfl rfl Hd.out ((R_cdrop HOU.out hjl (R_cap HOU.out))) (fun _ _ h => h) (fun _ h => h.elim) (fun k_ hk_ => trivial) HB.out HB.out.size (by simp only [List.length_append, List.length_take, List.length_cons, List.length_nil]; omega) ?_
       intro ve w38 hr hb_ hg_ hat_
       replace HSZ := Aside0.mk (Nat.le_trans HSZ.out hg_.size)
       replace HB := Aside0.mk hb_
       have He := Aside0.mk hr
       clear hr hb_ hg_ hat_
       clear Hd HOU HSZ SZ
       refine hK.out _ _ ((HB.out.cell (World.block_lt_of_cell? w _ hx0)).trans hx0) (fun hHeld => ?_)
       clear hK K
       refine norm_ (a' := ?_) ?_ ?_
       rotate_left
       ·show Act.put _ (some 61) _ = _
        simp only [Act.put, List.setIfInBounds_toArray, List.set_cons_zero, List.set_cons_succ, i64_w, i32_w]
        rfl
       refine pure_ (i := 15) (N := some 4) (v := ?_) (a' := ?_) #[true, true, true, true, true, true, true, true, true, true, true, true, true, true, true, true] rfl rfl (any_of HT_.out (by kernel_rfl)) (fun _ _ _ h => h) (Or.inl ⟨by rfl, ?_⟩) ?_ ?_
       rotate_left
       ·intro w'
        go_simp
        with_reducible rfl
       rotate_left
       ·simp only [Act.put, List.setIfInBounds_toArray, List.set_cons_zero, List.set_cons_succ, i64_w, i32_w]
        rfl
       refine done_ (done_of HT_.out (by kernel_rfl)) ?_
       clear hHeld HT_ HW_
       have hl9 : (insR x ys).length ≤ kk + 1 := Nat.le_trans (insR_len x ys) (by omega)
       have hHe := He.out
       rw [← HI.out] at hHe
       obtain ⟨A9, c9, e9⟩ := Kd.R_slice hHe
       subst e9
       obtain ⟨a9, h9, -⟩ := Kd.at_int (Kd.R_reads' hHe).2.2 0 (Int.le_refl _) (by rw [HI.out]; simp only [List.length_append, List.length_cons, List.length_nil]; omega)
       subst h9
       have HO := Aside0.mk hHe
       have HY9 : Aside0 (∀ y_ ∈ insR x ys, inR y_) := ⟨insR_in HXI.out HYI.out⟩
       clear hHe He HI
       generalize (if c = jj then some ad else some (ad.add jj)) = A60_
       go_wp2
       go_roundg (l0.length - (kk + 1))
       case measure => omega
       case rel => exact ⟨kk + 1, a9, c9, insR x ys, by go_num, by omega, by omega, rfl, hl9, HY9, HRES, HO, HB⟩
     ·refine Kd.R_lit_step (Kd.int .i64) (w0 := w) w.heap.size 3 (by rfl) (N := 56) rfl (xs := ([x] : List Int)) (inner := [.int .i64 x]) (ok := fun _ => True) (okp := fun _ => False) (by go_simp; done) (Kd.reps_scalar [x]) (fun _ hk => hk.elim) trivial HB.out HB.out.size (by simp) ?_
      intro vc w31 hr hb_ hg_ hat_
      replace HOU := Aside0.mk (Kd.R_grown HOU.out hg_ (fun _ _ hk => by cases hk))
      replace HSZ := Aside0.mk (Nat.le_trans HSZ.out hg_.size)
      replace HB := Aside0.mk hb_
      have Hc := Aside0.mk hr
      clear hr hb_ hg_ hat_
      refine hK.out _ _ ((HB.out.cell (World.block_lt_of_cell? w _ hx0)).trans hx0) (fun hHeld => ?_)
      clear hK K
      refine norm_ (a' := ?_) ?_ ?_
      rotate_left
      ·show Act.put _ (some 56) _ = _
       simp only [Act.put, List.setIfInBounds_toArray, List.set_cons_zero, List.set_cons_succ, i64_w, i32_w]
       rfl
      replace Hc := Aside0.mk (Kd.R_bound Hc.out)
      refine one_ (i := 0) (N := some 47) #[true, true, true, true, false, true, true, true, true, true, false, true, true, true, false, false] rfl rfl (one_of HT_.out (by kernel_rfl)) (by decide) (fun K hK => ?_)
      refine Kd.R_lit_step (Kd.int .i64) (w0 := w) w.heap.size 3 (by rfl) (N := 47) rfl (xs := ([] : List Int)) (inner := []) (ok := fun k_ => w31.heap.size ≤ k_) (okp := fun _ => False) (by go_simp; done) (Reps.none _ _) (fun _ hk => hk.elim) (Nat.le_refl _) HB.out HB.out.size (by simp) ?_
      intro va w32 hr hb_ hg_ hat_
      replace HOU := Aside0.mk (Kd.R_grown HOU.out hg_ (fun _ _ hk => by cases hk))
      replace Hc := Aside0.mk (Kd.R_grown Hc.out hg_ (fun _ _ hk => by cases hk))
      have HSZ1 := HSZ
      replace HSZ := Aside0.mk (Nat.le_trans HSZ.out hg_.size)
      replace HB := Aside0.mk hb_
      have Ha := Aside0.mk hr
      clear hr hb_ hg_ hat_
      refine hK.out _ _ ((HB.out.cell (World.block_lt_of_cell? w _ hx0)).trans hx0) (fun hHeld => ?_)
      clear hK K
      refine norm_ (a' := ?_) ?_ ?_
      rotate_left
      ·show Act.put _ (some 47) _ = _
       simp only [Act.put, List.setIfInBounds_toArray, List.set_cons_zero, List.set_cons_succ, i64_w, i32_w]
       rfl
      have HSZ0 := HSZ
      have Ha2 := Aside0.mk (Kd.R_mono (ok' := fun k_ => SZ ≤ k_ ∨ w32.heap.size ≤ k_) Ha.out (fun k_ hk_ => .inl (Nat.le_trans HSZ1.out hk_)))
      refine one_ (i := 4) (N := some 51) #[true, true, true, true, true, true, true, true, true, true, false, true, true, true, false, false] rfl rfl (one_of HT_.out (by kernel_rfl)) (by decide) (fun K hK => ?_)
      refine Kd.R_append_rows_step (Kd.int .i64) (w0 := w) w.heap.size (by rfl) (.tmp 47) (.tmp 50) 37 3 (.int .i64 0) 8 rfl Try.underlying37 info3 rfl (by decide) (by omega) _ _ _ _ _ _ _ (fun _ => False) rfl rfl Ha2.out ((R_ctake HOU.out hjl)) (fun _ _ h => h) (fun _ h => h.elim) (fun k_ hk_ => .inr hk_) HB.out HB.out.size (by simp only [List.length_nil]; omega) ?_
      intro vb w33 hr hb_ hg_ hat_
      rw [List.nil_append] at hr
      replace HOU := Aside0.mk (Kd.R_grown HOU.out hg_ (fun k_ hk_ e_ => Nat.not_lt.2 (Nat.le_trans HSZ1.out (Ha.out.1 k_ e_.symm)) hk_))
      replace Hc := Aside0.mk (Kd.R_grown Hc.out hg_ (fun k_ hk_ e_ => Nat.not_lt.2 (Ha.out.1 k_ e_.symm) hk_.2.2.1))
      replace HSZ := Aside0.mk (Nat.le_trans HSZ.out hg_.size)
      replace HB := Aside0.mk hb_
      have Hb := Aside0.mk hr
      clear hr hb_ hg_ hat_
      replace Hb := Aside0.mk (Kd.R_mono (ok' := fun k_ => SZ ≤ k_) Hb.out (fun k_ hk_ => hk_.elim id (fun h_ => Nat.le_trans HSZ0.out h_)))
      clear Ha Ha2 HSZ0 HSZ1
      refine hK.out _ _ ((HB.out.cell (World.block_lt_of_cell? w _ hx0)).trans hx0) (fun hHeld => ?_)
      clear hK K
      refine norm_ (a' := ?_) ?_ ?_
      rotate_left
      ·show Act.put _ (some 51) _ = _
       simp only [Act.put, List.setIfInBounds_toArray, List.set_cons_zero, List.set_cons_succ, i64_w, i32_w]
       rfl
      obtain ⟨Ac_, cc_, ec_⟩ := Kd.R_slice Hc.out
      subst ec_
      replace Hb := Aside0.mk (Kd.R_mono (ok' := fun k_ => SZ ≤ k_ ∨ w33.heap.size ≤ k_) Hb.out (fun k_ hk_ => .inl hk_))
      refine one_ (i := 10) (N := some 57) #[true, true, true, true, true, true, true, true, true, true, true, true, true, true, false, false] rfl rfl (one_of HT_.out (by kernel_rfl)) (by decide) (fun K hK => ?_)
      refine Kd.R_append_rows_step (Kd.int .i64) (w0 := w) w.heap.size (by rfl) (.tmp 51) (.tmp 56) 37 3 (.int .i64 0) 8 rfl Try.underlying37 info3 rfl (by decide) (by omega) _ _ _ _ _ _ _ (fun _ => False) rfl rfl Hb.out ((Kd.R_reads' Hc.out).2.2) (fun _ _ h => h) (fun _ h => h.elim) (fun k_ hk_ => .inr hk_) HB.out HB.out.size (by simp only [List.length_take, List.length_cons, List.length_nil]; omega) ?_
      intro vd w37 hr hb_ hg_ hat_
      replace HOU := Aside0.mk (Kd.R_grown HOU.out hg_ (fun k_ hk_ e_ => (Hb.out.1 k_ e_.symm).elim (fun h_ => Nat.not_lt.2 h_ hk_) (fun h_ => Nat.not_lt.2 (Nat.le_trans HSZ.out h_) hk_)))
      replace HSZ := Aside0.mk (Nat.le_trans HSZ.out hg_.size)
      replace HB := Aside0.mk hb_
      have Hd := Aside0.mk hr
      clear hr hb_ hg_ hat_
      clear Hb Hc
      refine hK.out _ _ ((HB.out.cell (World.block_lt_of_cell? w _ hx0)).trans hx0) (fun hHeld => ?_)
      clear hK K
      refine norm_ (a' := ?_) ?_ ?_
      rotate_left
      ·show Act.put _ (some 57) _ = _
       simp only [Act.put, List.setIfInBounds_toArray, List.set_cons_zero, List.set_cons_succ, i64_w, i32_w]
       rfl
      replace Hd := Aside0.mk (Kd.R_mono (ok' := fun k_ => True) Hd.out (fun k_ hk_ => trivial))
      refine one_ (i := 14) (N := some 61) #[true, true, true, true, true, true, true, true, true, true, true, true, true, true, true, false] rfl rfl (one_of HT_.out (by kernel_rfl)) (by decide) (fun K hK => ?_)
      refine Kd.R_append_rows_step (Kd.int .i64) (w0 := w) w.heap.size (by rfl) (.tmp 57) (.tmp 60) 37 3 (.int .i64 0) 8 rfl Try.underlying37 info3 rfl (by decide) (by omega) _ _ _ _ _ _ _ (fun _ => False) rfl rfl Hd.out ((R_cdrop HOU.out hjl (R_cap HOU.out))) (fun _ _ h => h) (fun _ h => h.elim) (fun k_ hk_ => trivial) HB.out HB.out.size (by simp only [List.length_append, List.length_take, List.length_cons, List.length_nil]; omega) ?_
      intro ve w38 hr hb_ hg_ hat_
      replace HSZ := Aside0.mk (Nat.le_trans HSZ.out hg_.size)
      replace HB := Aside0.mk hb_
      have He := Aside0.mk hr
      clear hr hb_ hg_ hat_
      clear Hd HOU HSZ SZ
      refine hK.out _ _ ((HB.out.cell (World.block_lt_of_cell? w _ hx0)).trans hx0) (fun hHeld => ?_)
      clear hK K
      refine norm_ (a' := ?_) ?_ ?_
      rotate_left
      ·show Act.put _ (some 61) _ = _
       simp only [Act.put, List.setIfInBounds_toArray, List.set_cons_zero, List.set_cons_succ, i64_w, i32_w]
       rfl
      refine pure_ (i := 15) (N := some 4) (v := ?_) (a' := ?_) #[true, true, true, true, true, true, true, true, true, true, true, true, true, true, true, true] rfl rfl (any_of HT_.out (by kernel_rfl)) (fun _ _ _ h => h) (Or.inl ⟨by rfl, ?_⟩) ?_ ?_
      rotate_left
      ·intro w'
       go_simp
       with_reducible rfl
      rotate_left
      ·simp only [Act.put, List.setIfInBounds_toArray, List.set_cons_zero, List.set_cons_succ, i64_w, i32_w]
       rfl
      refine done_ (done_of HT_.out (by kernel_rfl)) ?_
      clear hHeld HT_ HW_
      have hl9 : (insR x ys).length ≤ kk + 1 := Nat.le_trans (insR_len x ys) (by omega)
      have hHe := He.out
      rw [← HI.out] at hHe
      obtain ⟨A9, c9, e9⟩ := Kd.R_slice hHe
      subst e9
      obtain ⟨a9, h9, -⟩ := Kd.at_int (Kd.R_reads' hHe).2.2 0 (Int.le_refl _) (by rw [HI.out]; simp only [List.length_append, List.length_cons, List.length_nil]; omega)
      subst h9
      have HO := Aside0.mk hHe
      have HY9 : Aside0 (∀ y_ ∈ insR x ys, inR y_) := ⟨insR_in HXI.out HYI.out⟩
      clear hHe He HI
      generalize (if c = jj then some ad else some (ad.add jj)) = A60_
      go_wp2
      go_roundg (l0.length - (kk + 1))
      case measure => omega
      case rel => exact ⟨kk + 1, a9, c9, insR x ys, by go_num, by omega, by omega, rfl, hl9, HY9, HRES, HO, HB⟩
  ·obtain rfl : kk = l0.length := by omega
   have hltz : ¬ (l0.length : Int) < (l0.length : Int) := by omega
   have hres := HRES.out
   rw [List.drop_length, insAll] at hres
   subst hres
   clear HRES HA HIN
   have HO0 : Aside0 (oppB (ys.drop (1 - 1)) = oppB ys) := ⟨rfl⟩
   go_wp2
   go_loopg [7] ys.length (fun gg2 v7 wr2 => ∃ ii : Nat, v7 = .int .i64 ii ∧ 1 ≤ ii ∧ ii ≤ ys.length + 1 ∧ ys.length - ii ≤ gg2 ∧ Aside0 (oppB (ys.drop (ii - 1)) = oppB ys) ∧ Aside0 (Kd.R (Kd.int .i64) 3 wr2 w.heap.size (fun _ => True) (.slice (some ad) ys.length c) ys) ∧ Aside0 (Below w.heap.size w wr2))
   case atStart => exact ⟨1, rfl, Nat.le_refl _, by omega, by omega, HO0, HO, HB⟩
   case round =>
    clear HO0 HO HB
    obtain ⟨ii, rfl, hi1, hi2, hg2, HP, HO, HB⟩ := hrel
    obtain ⟨pv, hpv⟩ : ∃ pv, ii = pv + 1 := ⟨ii - 1, by omega⟩
    have hP := HP.out
    rw [show ii - 1 = pv by omega] at hP
    by_cases hil : ii < ys.length
    ·have hiz : (ii : Int) < (ys.length : Int) := by omega
     have hi0 : (0 : Int) ≤ (ii : Int) := Int.natCast_nonneg _
     have hp0 : (0 : Int) ≤ (pv : Int) := Int.natCast_nonneg _
     have hpz : (pv : Int) < (ys.length : Int) := by omega
     have hpl : pv < ys.length := by omega
     have ews : IntKind.i64.wrap ((ii : Int) - 1) = (pv : Int) := by rw [show (ii : Int) - 1 = (pv : Int) by omega]; exact IntWalk.i64_in _ ⟨by omega, by omega⟩
     have ewi : IntKind.i64.wrap ((ii : Int) + 1) = ((ii + 1 : Nat) : Int) := IntWalk.i64_in _ ⟨by omega, by omega⟩
     have hCy := (Kd.R_reads' HO.out).2.2
     obtain ⟨ad_, ea_, hy⟩ := Kd.at_int hCy (pv : Int) hp0 hpz
     obtain rfl := Option.some.inj ea_
     obtain ⟨ad_, eb_, hz⟩ := Kd.at_int hCy (ii : Int) hi0 hiz
     obtain rfl := Option.some.inj eb_
     clear ea_ eb_ hCy
     rw [Int.toNat_natCast] at hy hz
     have hrdy : rd ys (pv : Int) = ys[pv] := by unfold rd; simp [List.getD, hpl]
     have hrdz : rd ys (ii : Int) = ys[ii] := by unfold rd; simp [List.getD, hil]
     have hop := oppB_step (l := ys) (j := pv) (by omega)
     simp only [← hpv] at hop
     rw [hP, ← hrdy, ← hrdz] at hop
     have hzi : inR ys[ii] := HYI.out _ (List.getElem_mem hil)
     rw [← hrdz] at hzi
     clear hrdy hrdz hP HP
     generalize rd ys (pv : Int) = y at hy hop
     generalize rd ys (ii : Int) = z at hz hop hzi
     have ewn : IntKind.i64.wrap (-z) = -z := IntWalk.i64_in _ ⟨by unfold inR at hzi; omega, by unfold inR at hzi; omega⟩
     have HOP := Aside0.mk hop
     clear hop hzi
     obtain ⟨b, hb13⟩ : ∃ b, (y == -z) = b := ⟨_, rfl⟩
     clear hpv
     go_upto_region 13 with fail
     have hbdc : ∀ p v, wr.cell? p = some v → wr.drew.cell? p = some v := fun p v h => h
     have hbd := below_drew (Below.refl wr.heap.size wr)
     replace HO := Aside0.mk (Kd.R_below HO.out hbd)
     replace HB := Aside0.mk (HB.out.trans (hbd.mono HB.out.size))
     clear hbd
     replace hy := hbdc _ _ hy
     replace hz := hbdc _ _ hz
     clear hbdc
     generalize hw9 : wr.drew = w40 at *
     refine start_ (n := 11) (S := fun w' => w'.cell? (ad.add pv) = some (.int .i64 y) ∧ w'.cell? (ad.add ii) = some (.int .i64 z)) (ds := []) #[false, false, false, false, false, false, false, false, false, false, false] (by kernel_rfl) rfl rfl (by rw [hw9]; exact ⟨hy, hz⟩) (fun hHeld => ?_)
     refine with_tabW so13_tab so13_bits (fun HT_ HW_ => ?_)
     rw [hw9] at hHeld ⊢
     clear hw9
     refine pure_ (i := 0) (N := some 68) (v := ?_) (a' := ?_) #[true, false, false, false, false, false, false, false, false, false, false] rfl rfl (any_of HT_.out (by kernel_rfl)) (fun _ _ _ h => h) (Or.inl ⟨by rfl, ?_⟩) ?_ ?_
     rotate_left
     ·intro w'
      go_simp
      with_reducible rfl
     rotate_left
     ·simp only [Act.put, List.setIfInBounds_toArray, List.set_cons_zero, List.set_cons_succ, i64_w, i32_w]
      rfl
     refine pure_ (i := 1) (N := some 69) (v := ?_) (a' := ?_) #[true, true, false, false, false, false, false, false, false, false, false] rfl rfl (any_of HT_.out (by kernel_rfl)) (fun _ _ _ h => h) (Or.inl ⟨by rfl, ?_⟩) ?_ ?_
     rotate_left
     ·intro w'
      go_simp
      with_reducible rfl
     rotate_left
     ·simp only [Act.put, List.setIfInBounds_toArray, List.set_cons_zero, List.set_cons_succ, i64_w, i32_w]
      rfl
     refine pure_ (i := 2) (N := some 70) (v := ?_) (a' := ?_) #[true, true, true, false, false, false, false, false, false, false, false] rfl rfl (any_of HT_.out (by kernel_rfl)) (fun _ _ _ h => h) (Or.inl ⟨by rfl, ?_⟩) ?_ ?_
     rotate_left
     ·intro w'
      go_simp
      with_reducible rfl
     rotate_left
     ·simp only [Act.put, List.setIfInBounds_toArray, List.set_cons_zero, List.set_cons_succ, i64_w, i32_w]
      rfl
     refine pure_ (i := 3) (N := some 71) (v := ?_) (a' := ?_) #[true, true, true, true, false, false, false, false, false, false, false] rfl rfl (any_of HT_.out (by kernel_rfl)) (fun _ _ _ h => h) (Or.inl ⟨by rfl, ?_⟩) ?_ ?_
     rotate_left
     ·intro w'
      go_simp
      with_reducible rfl
     rotate_left
     ·simp only [Act.put, List.setIfInBounds_toArray, List.set_cons_zero, List.set_cons_succ, i64_w, i32_w]
      rfl
     refine pure_ (i := 5) (N := some 73) (v := ?_) (a' := ?_) #[true, true, true, true, false, true, false, false, false, false, false] rfl rfl (any_of HT_.out (by kernel_rfl)) (fun _ _ _ h => h) (Or.inl ⟨by rfl, ?_⟩) ?_ ?_
     rotate_left
     ·intro w'
      go_simp
      with_reducible rfl
     rotate_left
     ·simp only [Act.put, List.setIfInBounds_toArray, List.set_cons_zero, List.set_cons_succ, i64_w, i32_w]
      rfl
     refine pure_ (i := 6) (N := some 74) (v := ?_) (a' := ?_) #[true, true, true, true, false, true, true, false, false, false, false] rfl rfl (any_of HT_.out (by kernel_rfl)) (fun _ _ _ h => h) (Or.inl ⟨by rfl, ?_⟩) ?_ ?_
     rotate_left
     ·intro w'
      go_simp
      with_reducible rfl
     rotate_left
     ·simp only [Act.put, List.setIfInBounds_toArray, List.set_cons_zero, List.set_cons_succ, i64_w, i32_w]
      rfl
     refine pure_ (i := 7) (N := some 75) (v := ?_) (a' := ?_) #[true, true, true, true, false, true, true, true, false, false, false] rfl rfl (any_of HT_.out (by kernel_rfl)) (fun _ _ _ h => h) (Or.inl ⟨by rfl, ?_⟩) ?_ ?_
     rotate_left
     ·intro w'
      go_simp
      with_reducible rfl
     rotate_left
     ·simp only [Act.put, List.setIfInBounds_toArray, List.set_cons_zero, List.set_cons_succ, i64_w, i32_w]
      rfl
     refine take_ (i := 4) (N := some 72) (v := ?_) (a' := ?_) #[true, true, true, true, true, true, true, true, false, false, false] rfl rfl (take_ofW HT_.out HW_.out (by kernel_rfl)) (fun _ _ _ h => h) (Or.inl ⟨by rfl, ?_⟩) hHeld ?_ ?_
     rotate_left
     ·rintro w' ⟨s0, s1⟩
      go_simp
      with_reducible rfl
     rotate_left
     ·simp only [Act.put, List.setIfInBounds_toArray, List.set_cons_zero, List.set_cons_succ, i64_w, i32_w]
      rfl
     refine take_ (i := 8) (N := some 76) (v := ?_) (a' := ?_) #[true, true, true, true, true, true, true, true, true, false, false] rfl rfl (take_ofW HT_.out HW_.out (by kernel_rfl)) (fun _ _ _ h => h) (Or.inl ⟨by rfl, ?_⟩) hHeld ?_ ?_
     rotate_left
     ·rintro w' ⟨s0, s1⟩
      go_simp
      with_reducible rfl
     rotate_left
     ·simp only [Act.put, List.setIfInBounds_toArray, List.set_cons_zero, List.set_cons_succ, i64_w, i32_w]
      rfl
     refine pure_ (i := 9) (N := some 77) (v := ?_) (a' := ?_) #[true, true, true, true, true, true, true, true, true, true, false] rfl rfl (any_of HT_.out (by kernel_rfl)) (fun _ _ _ h => h) (Or.inl ⟨by rfl, ?_⟩) ?_ ?_
     rotate_left
     ·intro w'
      go_simp
      with_reducible rfl
     rotate_left
     ·simp only [Act.put, List.setIfInBounds_toArray, List.set_cons_zero, List.set_cons_succ, i64_w, i32_w]
      rfl
     refine pure_ (i := 10) (N := some 78) (v := ?_) (a' := ?_) #[true, true, true, true, true, true, true, true, true, true, true] rfl rfl (any_of HT_.out (by kernel_rfl)) (fun _ _ _ h => h) (Or.inl ⟨by rfl, ?_⟩) ?_ ?_
     rotate_left
     ·intro w'
      go_simp
      with_reducible rfl
     rotate_left
     ·simp only [Act.put, List.setIfInBounds_toArray, List.set_cons_zero, List.set_cons_succ, i64_w, i32_w]
      rfl
     refine done_ (done_of HT_.out (by kernel_rfl)) ?_
     clear hHeld HT_ HW_
     have hop := HOP.out
     rw [hb13] at hop
     cases b with
     | true =>
      rw [Bool.true_or] at hop
      have h2 := H2.out
      rw [hop] at h2
      subst h2
      clear HOP hop
      go_wp2
      go_ret2
      exact ⟨_, rfl, HO.out, HB.out⟩
     | false =>
      rw [Bool.false_or] at hop
      have HP : Aside0 (oppB (ys.drop (ii + 1 - 1)) = oppB ys) := ⟨by rw [Nat.add_sub_cancel]; exact hop.symm⟩
      clear HOP hop
      go_wp2
      go_roundg (ys.length - (ii + 1))
      case measure => omega
      case rel => exact ⟨ii + 1, by go_num, by omega, by omega, by omega, HP, HO, HB⟩
    ·have hiz : ¬ (ii : Int) < (ys.length : Int) := by omega
     rw [oppB_end (by omega)] at hP
     have h2 := H2.out
     rw [← hP] at h2
     subst h2
     clear hP HP
     go_wp2
     go_ret2
     exact ⟨_, rfl, HO.out, HB.out⟩
end Go.Proofs.Ytelfahcjeldliaa.PFnExactCheckProof
end
section
namespace Go.Proofs.Ytelfahcjeldliaa.PFnExactCheckProof
open Go.RowKit Go.Proofs.YtelfahcjeldliaaW.PrintWords Go.Proofs.YtelfahcjeldliaaW.PrintLast Go.Proofs.YtelfahcjeldliaaW.PrintMore
attribute [local go_sem] max2_int min2_int max_two min_two max_three min_three max_four min_four   -- for this text's walks alone
set_option linter.unusedVariables false
set_option linter.unusedSimpArgs false
def spec_l01Same.l0 : Nat → List Int → List Int → Int → Option (Bool)
 | 0, _, _, _ => none
 | k + 1, x0, x1, x5 => if x5 < (x0.length : Int) then (if 0 ≤ x5 then (if x5 < (x1.length : Int) then (if (rd x0 x5) = (rd x1 x5) then (spec_l01Same.l0 k x0 x1 (wrap64 (x5 + 1))) else (some false)) else (none)) else (none)) else (some true)
def spec_l01Same.f (k : Nat) (l0 : List Int) (l1 : List Int) : Option (Bool) := if (l0.length : Int) = (l1.length : Int) then (spec_l01Same.l0 k l0 l1 0) else (some false)
set_option maxHeartbeats 8000000 in
set_option maxRecDepth 100000 in
theorem spec_l01Same.calls (k : Nat) (A0 : Option Addr) (c0 : Nat) (l0 : List Int) (A1 : Option Addr) (c1 : Nat) (l1 : List Int) (r : Bool) (w : World) (hr0 : Kd.C (Kd.int .i64) w A0 l0.length l0) (hc0 : l0.length ≤ c0) (hr1 : Kd.C (Kd.int .i64) w A1 l1.length l1) (hc1 : l1.length ≤ c1) (h : spec_l01Same.f k l0 l1 = some r) :
  Calls Try.prog 90 #[.slice A0 l0.length c0, .slice A1 l1.length c1] w fun e w' => e = .returned (.bool r) ∧ Drawn0 w w' := by
 have HR0 := Aside0.mk hr0
 have HC0 := Aside0.mk hc0
 clear hr0 hc0
 have HR1 := Aside0.mk hr1
 have HC1 := Aside0.mk hc1
 clear hr1 hc1
 have H : (if (l0.length : Int) = (l1.length : Int) then (spec_l01Same.l0 k l0 l1 0) else (some false)) = some r := h
 clear h
 by_cases c3 : (l0.length : Int) = (l1.length : Int)
 ·rw [if_pos c3] at H
  have c3b0 : ((l0.length : Int) == (l1.length : Int)) = true := beq_iff_eq.mpr c3
  have c3b1 : ((l0.length : Int) != (l1.length : Int)) = false := bne_eq_false_iff_eq.mpr c3
  have c3b2 : (l0.length == l1.length) = true := by first | simpa using c3 | (simp at c3 ⊢; omega)
  clear c3
  have H' := Aside0.mk H
  clear H
  go_enter Try.func90, Try.ntmps90
  go_wp2
  repeat (go_quiet (fail); try go_wp2)
  go_loopg [5] k (fun kq v5 w' => ∃ (x5_1 : Int), v5 = .int .i64 x5_1 ∧ Aside0 (spec_l01Same.l0 kq l0 l1 x5_1 = some r) ∧ Aside0 (kq ≤ k) ∧ Drawn0 w w')
  case atStart => exact ⟨(0), (by first | rfl | (simp; done) | (simp [*]; done)), H', ⟨Nat.le_refl _⟩, by repeat (first | exact Drawn0.refl _ | apply Drawn0.step)⟩
  case round =>
   clear H'
   try clear c1
   try clear p2
   try clear c3
   try clear c3b0
   try clear c3b1
   try clear c3b2
   obtain ⟨x5_1, rfl, HA, HK1, ⟨m1, rfl⟩⟩ := hrel
   cases gk with
   | zero => exact absurd HA.out (by simp [spec_l01Same.l0])
   | succ k1 =>
    have H := HA.out
    clear HA
    simp only [spec_l01Same.l0] at H
    by_cases c4 : x5_1 < (l0.length : Int)
    ·rw [if_pos c4] at H
     have c4b0 : decide (x5_1 < (l0.length : Int)) = true := decide_eq_true c4
     clear c4
     by_cases c5 : 0 ≤ x5_1
     ·rw [if_pos c5] at H
      have c5b0 : decide (0 ≤ x5_1) = true := decide_eq_true c5
      clear c5
      by_cases c6 : x5_1 < (l1.length : Int)
      ·rw [if_pos c6] at H
       have c6b0 : decide (x5_1 < (l1.length : Int)) = true := decide_eq_true c6
       clear c6
       by_cases c7 : (rd l0 x5_1) = (rd l1 x5_1)
       ·rw [if_pos c7] at H
        have c7b0 : ((rd l0 x5_1) == (rd l1 x5_1)) = true := beq_iff_eq.mpr c7
        have c7b1 : ((rd l0 x5_1) != (rd l1 x5_1)) = false := bne_eq_false_iff_eq.mpr c7
        clear c7
        have H' := Aside0.mk H
        clear H
        have p176 : 0 ≤ (x5_1 : Int) := of_decide_eq_true (by first | (with_reducible assumption) | assumption)
        have q176 : x5_1 < (l0.length : Int) := of_decide_eq_true (by first | (with_reducible assumption) | assumption)
        obtain ⟨ad176, e176, hx176_0⟩ := Kd.at_int HR0.out x5_1 p176 q176
        cases e176
        replace p176 := eq_true p176
        replace q176 := eq_true q176
        have p177 : 0 ≤ (x5_1 : Int) := of_decide_eq_true (by first | (with_reducible assumption) | assumption)
        have q177 : x5_1 < (l1.length : Int) := of_decide_eq_true (by first | (with_reducible assumption) | assumption)
        obtain ⟨ad177, e177, hx177_0⟩ := Kd.at_int HR1.out x5_1 p177 q177
        cases e177
        replace p177 := eq_true p177
        replace q177 := eq_true q177
        go_wp2
        repeat (go_quiet (fail); try go_wp2)
        go_roundg k1
        case measure => have := HK1.out; omega
        case rel => exact ⟨(wrap64 (x5_1 + 1)), (by first | rfl | (simp; done) | (simp [*]; done)), H', ⟨by have := HK1.out; omega⟩, by repeat (first | exact Drawn0.refl _ | apply Drawn0.step)⟩
       ·rw [if_neg c7] at H
        have c7b0 : ((rd l0 x5_1) == (rd l1 x5_1)) = false := beq_eq_false_iff_ne.mpr c7
        have c7b1 : ((rd l0 x5_1) != (rd l1 x5_1)) = true := bne_iff_ne.mpr c7
        obtain rfl := Option.some.inj H
        have p176 : 0 ≤ (x5_1 : Int) := of_decide_eq_true (by first | (with_reducible assumption) | assumption)
        have q176 : x5_1 < (l0.length : Int) := of_decide_eq_true (by first | (with_reducible assumption) | assumption)
        obtain ⟨ad176, e176, hx176_0⟩ := Kd.at_int HR0.out x5_1 p176 q176
        cases e176
        replace p176 := eq_true p176
        replace q176 := eq_true q176
        have p177 : 0 ≤ (x5_1 : Int) := of_decide_eq_true (by first | (with_reducible assumption) | assumption)
        have q177 : x5_1 < (l1.length : Int) := of_decide_eq_true (by first | (with_reducible assumption) | assumption)
        obtain ⟨ad177, e177, hx177_0⟩ := Kd.at_int HR1.out x5_1 p177 q177
        cases e177
        replace p177 := eq_true p177
        replace q177 := eq_true q177
        go_wp2
        repeat (go_quiet (fail); try go_wp2)
        go_ret
        exact ⟨by first | rfl | (simp; done) | (simp [*]; done), by repeat (first | exact Drawn0.refl _ | apply Drawn0.step)⟩
      ·rw [if_neg c6] at H
       exact absurd H (by simp)
     ·rw [if_neg c5] at H
      exact absurd H (by simp)
    ·rw [if_neg c4] at H
     have c4b0 : decide (x5_1 < (l0.length : Int)) = false := decide_eq_false c4
     clear c4
     obtain rfl := Option.some.inj H
     go_wp2
     repeat (go_quiet (fail); try go_wp2)
     go_ret
     exact ⟨by first | rfl | (simp; done) | (simp [*]; done), by repeat (first | exact Drawn0.refl _ | apply Drawn0.step)⟩
 ·rw [if_neg c3] at H
  have c3b0 : ((l0.length : Int) == (l1.length : Int)) = false := beq_eq_false_iff_ne.mpr c3
  have c3b1 : ((l0.length : Int) != (l1.length : Int)) = true := bne_iff_ne.mpr c3
  have c3b2 : (l0.length == l1.length) = false := by first | simpa using c3 | (simp at c3 ⊢; omega)
  obtain rfl := Option.some.inj H
  go_enter Try.func90, Try.ntmps90
  go_wp2
  repeat (go_quiet (fail); try go_wp2)
  go_ret
  exact ⟨by first | rfl | (simp; done) | (simp [*]; done), by repeat (first | exact Drawn0.refl _ | apply Drawn0.step)⟩
def spec_l03Find.l0 : Nat → List (List Int) → List Int → Int → Option (Int)
 | 0, _, _, _ => none
 | k + 1, x0, x5, x7 => if x7 ≥ 0 then (if 0 ≤ x7 then (if x7 < (x0.length : Int) then ((spec_l01Sorted.f (rd_L1 x0 x7)).bind fun bt183 => ((spec_l01Same.f k x5 bt183.1).bind fun t187 => (if t187 = true then (some x7) else (spec_l03Find.l0 k x0 x5 (wrap64 (x7 - 1)))))) else (none)) else (none)) else (some (-1))
def spec_l03Find.f (k : Nat) (l0 : List (List Int)) (l1 : List Int) : Option (Int) := (spec_l01Sorted.f l1).bind fun bt178 => (spec_l03Find.l0 k l0 bt178.1 (wrap64 ((l0.length : Int) - 1)))
set_option maxHeartbeats 8000000 in
set_option maxRecDepth 100000 in
theorem spec_l03Find.calls (k : Nat) (A0 : Option Addr) (c0 : Nat) (l0 : List (List Int)) (A1 : Option Addr) (c1 : Nat) (l1 : List Int) (r : Int) (w : World) (hr0 : Kd.C (Kd.slice 3 (Kd.int .i64)) w A0 l0.length l0) (hc0 : l0.length ≤ c0) (hr1 : Kd.C (Kd.int .i64) w A1 l1.length l1) (hc1 : l1.length ≤ c1) (h : spec_l03Find.f k l0 l1 = some r) :
  Calls Try.prog 97 #[.slice A0 l0.length c0, .slice A1 l1.length c1] w fun e w' => e = .returned (.int .i64 r) ∧ Below w.heap.size w w' := by
 have HR0 := Aside0.mk hr0
 have HC0 := Aside0.mk hc0
 clear hr0 hc0
 have HR1 := Aside0.mk hr1
 have HC1 := Aside0.mk hc1
 clear hr1 hc1
 have HB := Aside0.mk (Below.refl w.heap.size w)
 have H : ((spec_l01Sorted.f l1).bind fun bt178 => (spec_l03Find.l0 k l0 bt178.1 (wrap64 ((l0.length : Int) - 1)))) = some r := h
 clear h
 replace H := Option.bind_eq_some_iff.mp H
 obtain ⟨⟨t178, t179⟩, A30, H⟩ := H
 replace H : (spec_l03Find.l0 k l0 t178 (wrap64 ((l0.length : Int) - 1))) = some r := H
 have A3 := Aside0.mk A30
 clear A30
 have H' := Aside0.mk H
 clear H
 go_enter Try.func97, Try.ntmps97
 go_wp2_with (first | ((with_reducible refine gate_callee (f := 82) rfl ?_); refine goesL_ (some 12) rfl rfl Try.func82 (by kernel_rfl) rfl #[.slice A1 l1.length c1] rfl (by (try simp only [List.map_toArray, List.map_cons, List.map_nil]); first | done | rfl | (simp only [List.length_drop, List.length_take]; rfl)) ?_; (with_reducible refine (spec_l01Sorted.calls _ _ l1 t178 t179 _ ?side1 ?side2 A3.out).mono ?_); (case side1 => repeat (first | exact HR1.out | (with_reducible refine Kd.C_alloc ?_ _) | (with_reducible refine Kd.C_drewN ?_ _) | (with_reducible refine Kd.C_drew ?_))); (case side2 => exact HC1.out); rintro e w4 ⟨v180, rfl, ho0, hb⟩; refine ⟨_, rfl, ?_⟩; have n0_ := Aside0.mk (Kd.R_lower ho0 (below_size (by repeat (first | (with_reducible first | exact HB.out | apply below_alloc | apply pw_below_drewN | apply below_drew1) | exact HB.out)))); have n1_ := Aside0.mk (below_step (by repeat (first | (with_reducible first | exact HB.out | apply below_alloc | apply pw_below_drewN | apply below_drew1) | exact HB.out)) hb); clear HB; have HO181 := n0_; have HB := n1_; clear n0_ n1_; (try clear hb); (try clear hb2); (try clear hk); (try clear hi); (try clear ho0)))
 go_loopg [7] k (fun kq v7 w' => ∃ (x7_1 : Int), v7 = .int .i64 x7_1 ∧ Aside0 (spec_l03Find.l0 kq l0 t178 x7_1 = some r) ∧ Aside0 (kq ≤ k) ∧ Aside0 (Kd.R (Kd.int .i64) 3 w' w.heap.size (fun _ => True) v180 t178) ∧ Aside0 (Below w.heap.size w w'))
 case atStart => exact ⟨(wrap64 ((l0.length : Int) - 1)), (by first | rfl | (simp; done) | (simp [*]; done)), H', ⟨Nat.le_refl _⟩, ⟨by (with_reducible repeat (first | apply Kd.R_alloc | apply Kd.R_drewN | apply Kd.R_drew)); exact HO181.out⟩, ⟨by repeat (first | (with_reducible first | exact HB.out | apply below_alloc | apply pw_below_drewN | apply below_drew1) | exact HB.out)⟩⟩
 case round =>
  clear H'
  try clear c1
  try clear p2
  obtain ⟨x7_1, rfl, HA, HK1, HO_5, HB⟩ := hrel
  cases gk with
  | zero => exact absurd HA.out (by simp [spec_l03Find.l0])
  | succ k1 =>
   have H := HA.out
   clear HA
   simp only [spec_l03Find.l0] at H
   by_cases c5 : x7_1 ≥ 0
   ·rw [if_pos c5] at H
    have c5b0 : decide (0 ≤ x7_1) = true := decide_eq_true c5
    clear c5
    by_cases c6 : 0 ≤ x7_1
    ·rw [if_pos c6] at H
     have c6b0 : decide (0 ≤ x7_1) = true := decide_eq_true c6
     clear c6
     by_cases c7 : x7_1 < (l0.length : Int)
     ·rw [if_pos c7] at H
      have c7b0 : decide (x7_1 < (l0.length : Int)) = true := decide_eq_true c7
      clear c7
      replace H := Option.bind_eq_some_iff.mp H
      obtain ⟨⟨t183, t184⟩, A80, H⟩ := H
      replace H : ((spec_l01Same.f k1 t178 t183).bind fun t187 => (if t187 = true then (some x7_1) else (spec_l03Find.l0 k1 l0 t178 (wrap64 (x7_1 - 1))))) = some r := H
      have A8 := Aside0.mk A80
      clear A80
      replace H := Option.bind_eq_some_iff.mp H
      obtain ⟨t187, A90, H⟩ := H
      replace H : (if t187 = true then (some x7_1) else (spec_l03Find.l0 k1 l0 t178 (wrap64 (x7_1 - 1)))) = some r := H
      have A9 := Aside0.mk A90
      clear A90
      by_cases c10 : t187 = true
      ·subst c10
       have H1 : (some x7_1) = some r := by rw [if_pos rfl] at H; exact H
       clear H
       have H := H1
       clear H1
       obtain rfl := Option.some.inj H
       have p182 : 0 ≤ (x7_1 : Int) := of_decide_eq_true (by first | (with_reducible assumption) | assumption)
       have q182 : x7_1 < (l0.length : Int) := of_decide_eq_true (by first | (with_reducible assumption) | assumption)
       obtain ⟨ad182, A182_0, c182_0, e182, hx182_0, hl182_0, hi182_0⟩ := at_L1 HR0.out x7_1 p182 q182
       cases e182
       replace hx182_0 := (HB.out.cell (World.block_lt_of_cell? w _ hx182_0)).trans hx182_0
       have HR182_0 := Aside0.mk hi182_0
       have HC182_0 := Aside0.mk hl182_0
       clear hi182_0 hl182_0
       replace p182 := eq_true p182
       replace q182 := eq_true q182
       go_wp2_with (first | ((with_reducible refine gate_callee (f := 82) rfl ?_); refine goesL_ (some 27) rfl rfl Try.func82 (by kernel_rfl) rfl #[.slice A182_0 (rd_L1 l0 x7_1).length c182_0] rfl (by (try simp only [List.map_toArray, List.map_cons, List.map_nil]); first | done | rfl | (simp only [List.length_drop, List.length_take]; rfl)) ?_; (with_reducible refine (spec_l01Sorted.calls _ _ (rd_L1 l0 x7_1) t183 t184 _ ?side1 ?side2 A8.out).mono ?_); (case side1 => repeat (first | exact (Kd.C_below HR182_0.out HB.out) | (with_reducible refine Kd.C_alloc ?_ _) | (with_reducible refine Kd.C_drewN ?_ _) | (with_reducible refine Kd.C_drew ?_))); (case side2 => exact HC182_0.out); rintro e w11 ⟨v185, rfl, ho0, hb⟩; refine ⟨_, rfl, ?_⟩; have n0_ := Aside0.mk (Kd.R_elder' (by (with_reducible repeat (first | apply Kd.R_alloc | apply Kd.R_drewN | apply Kd.R_drew)); exact HO_5.out) (Kd.R_base ho0) hb); have n1_ := Aside0.mk (Kd.R_lower (Kd.R_new' ho0 (Kd.R_lt (by (with_reducible repeat (first | apply Kd.R_alloc | apply Kd.R_drewN | apply Kd.R_drew)); exact HO_5.out))) (below_size (by repeat (first | (with_reducible first | exact HB.out | apply below_alloc | apply pw_below_drewN | apply below_drew1) | exact HB.out)))); have n2_ := Aside0.mk (below_step (by repeat (first | (with_reducible first | exact HB.out | apply below_alloc | apply pw_below_drewN | apply below_drew1) | exact HB.out)) hb); clear HO_5; clear HB; have HO_5 := n0_; have HO186 := n1_; have HB := n2_; clear n0_ n1_ n2_; (try clear hb); (try clear hb2); (try clear hk); (try clear hi); (try clear ho0); obtain ⟨Ao12, co12, eo12⟩ := Kd.R_slice HO_5.out; subst eo12; obtain ⟨Ao13, co13, eo13⟩ := Kd.R_slice HO186.out; subst eo13) | ((with_reducible refine gate_callee (f := 90) rfl ?_); refine goesL_ (some 32) rfl rfl Try.func90 (by kernel_rfl) rfl #[.slice Ao12 t178.length co12, .slice Ao13 t183.length co13] rfl (by (try simp only [List.map_toArray, List.map_cons, List.map_nil]); first | done | rfl | (simp only [List.length_drop, List.length_take]; rfl)) ?_; (with_reducible refine (spec_l01Same.calls k1 _ _ t178 _ _ t183 true _ ?side1 ?side2 ?side3 ?side4 A9.out).mono ?_); (case side1 => repeat (first | exact (Kd.R_reads' HO_5.out).2.2 | (with_reducible refine Kd.C_alloc ?_ _) | (with_reducible refine Kd.C_drewN ?_ _) | (with_reducible refine Kd.C_drew ?_))); (case side2 => exact (Kd.R_reads' HO_5.out).2.1); (case side3 => repeat (first | exact (Kd.R_reads' HO186.out).2.2 | (with_reducible refine Kd.C_alloc ?_ _) | (with_reducible refine Kd.C_drewN ?_ _) | (with_reducible refine Kd.C_drew ?_))); (case side4 => exact (Kd.R_reads' HO186.out).2.1); rintro e w' ⟨rfl, ⟨nd, rfl⟩⟩; refine ⟨_, rfl, ?_⟩))
       go_ret
       exact ⟨by first | rfl | (simp [errW_none, errW_some] <;> rfl) | (simp [*, errW_none, errW_some] <;> rfl), by repeat (first | (with_reducible first | exact HB.out | apply below_alloc | apply pw_below_drewN | apply below_drew1) | exact HB.out)⟩
      ·replace c10 := Bool.eq_false_iff.mpr c10
       subst c10
       have H1 : (spec_l03Find.l0 k1 l0 t178 (wrap64 (x7_1 - 1))) = some r := by rw [if_neg (show ¬ (false = true) by decide)] at H; exact H
       clear H
       have H := H1
       clear H1
       have H' := Aside0.mk H
       clear H
       have p182 : 0 ≤ (x7_1 : Int) := of_decide_eq_true (by first | (with_reducible assumption) | assumption)
       have q182 : x7_1 < (l0.length : Int) := of_decide_eq_true (by first | (with_reducible assumption) | assumption)
       obtain ⟨ad182, A182_0, c182_0, e182, hx182_0, hl182_0, hi182_0⟩ := at_L1 HR0.out x7_1 p182 q182
       cases e182
       replace hx182_0 := (HB.out.cell (World.block_lt_of_cell? w _ hx182_0)).trans hx182_0
       have HR182_0 := Aside0.mk hi182_0
       have HC182_0 := Aside0.mk hl182_0
       clear hi182_0 hl182_0
       replace p182 := eq_true p182
       replace q182 := eq_true q182
       go_wp2_with (first | ((with_reducible refine gate_callee (f := 82) rfl ?_); refine goesL_ (some 27) rfl rfl Try.func82 (by kernel_rfl) rfl #[.slice A182_0 (rd_L1 l0 x7_1).length c182_0] rfl (by (try simp only [List.map_toArray, List.map_cons, List.map_nil]); first | done | rfl | (simp only [List.length_drop, List.length_take]; rfl)) ?_; (with_reducible refine (spec_l01Sorted.calls _ _ (rd_L1 l0 x7_1) t183 t184 _ ?side1 ?side2 A8.out).mono ?_); (case side1 => repeat (first | exact (Kd.C_below HR182_0.out HB.out) | (with_reducible refine Kd.C_alloc ?_ _) | (with_reducible refine Kd.C_drewN ?_ _) | (with_reducible refine Kd.C_drew ?_))); (case side2 => exact HC182_0.out); rintro e w14 ⟨v185, rfl, ho0, hb⟩; refine ⟨_, rfl, ?_⟩; have n0_ := Aside0.mk (Kd.R_elder' (by (with_reducible repeat (first | apply Kd.R_alloc | apply Kd.R_drewN | apply Kd.R_drew)); exact HO_5.out) (Kd.R_base ho0) hb); have n1_ := Aside0.mk (Kd.R_lower (Kd.R_new' ho0 (Kd.R_lt (by (with_reducible repeat (first | apply Kd.R_alloc | apply Kd.R_drewN | apply Kd.R_drew)); exact HO_5.out))) (below_size (by repeat (first | (with_reducible first | exact HB.out | apply below_alloc | apply pw_below_drewN | apply below_drew1) | exact HB.out)))); have n2_ := Aside0.mk (below_step (by repeat (first | (with_reducible first | exact HB.out | apply below_alloc | apply pw_below_drewN | apply below_drew1) | exact HB.out)) hb); clear HO_5; clear HB; have HO_5 := n0_; have HO186 := n1_; have HB := n2_; clear n0_ n1_ n2_; (try clear hb); (try clear hb2); (try clear hk); (try clear hi); (try clear ho0); obtain ⟨Ao15, co15, eo15⟩ := Kd.R_slice HO_5.out; subst eo15; obtain ⟨Ao16, co16, eo16⟩ := Kd.R_slice HO186.out; subst eo16) | ((with_reducible refine gate_callee (f := 90) rfl ?_); refine goesL_ (some 32) rfl rfl Try.func90 (by kernel_rfl) rfl #[.slice Ao15 t178.length co15, .slice Ao16 t183.length co16] rfl (by (try simp only [List.map_toArray, List.map_cons, List.map_nil]); first | done | rfl | (simp only [List.length_drop, List.length_take]; rfl)) ?_; (with_reducible refine (spec_l01Same.calls k1 _ _ t178 _ _ t183 false _ ?side1 ?side2 ?side3 ?side4 A9.out).mono ?_); (case side1 => repeat (first | exact (Kd.R_reads' HO_5.out).2.2 | (with_reducible refine Kd.C_alloc ?_ _) | (with_reducible refine Kd.C_drewN ?_ _) | (with_reducible refine Kd.C_drew ?_))); (case side2 => exact (Kd.R_reads' HO_5.out).2.1); (case side3 => repeat (first | exact (Kd.R_reads' HO186.out).2.2 | (with_reducible refine Kd.C_alloc ?_ _) | (with_reducible refine Kd.C_drewN ?_ _) | (with_reducible refine Kd.C_drew ?_))); (case side4 => exact (Kd.R_reads' HO186.out).2.1); rintro e w' ⟨rfl, ⟨nd, rfl⟩⟩; refine ⟨_, rfl, ?_⟩))
       go_roundg k1
       case measure => have := HK1.out; omega
       case rel => exact ⟨(wrap64 (x7_1 - 1)), (by first | rfl | (simp; done) | (simp [*]; done)), H', ⟨by have := HK1.out; omega⟩, ⟨by (with_reducible repeat (first | apply Kd.R_alloc | apply Kd.R_drewN | apply Kd.R_drew)); exact Kd.R_mono HO_5.out (fun _ hk => trivial)⟩, ⟨by repeat (first | (with_reducible first | exact HB.out | apply below_alloc | apply pw_below_drewN | apply below_drew1) | exact HB.out)⟩⟩
     ·rw [if_neg c7] at H
      exact absurd H (by simp)
    ·rw [if_neg c6] at H
     exact absurd H (by simp)
   ·rw [if_neg c5] at H
    have c5b0 : decide (0 ≤ x7_1) = false := decide_eq_false c5
    clear c5
    obtain rfl := Option.some.inj H
    go_wp2
    go_ret
    exact ⟨by first | rfl | (simp [errW_none, errW_some] <;> rfl) | (simp [*, errW_none, errW_some] <;> rfl), by repeat (first | (with_reducible first | exact HB.out | apply below_alloc | apply pw_below_drewN | apply below_drew1) | exact HB.out)⟩
end Go.Proofs.Ytelfahcjeldliaa.PFnExactCheckProof
end
section
namespace Go.Proofs.Ytelfahcjeldliaa.PFnExactCheckProof
open Go.RowKit Go.Proofs.YtelfahcjeldliaaW.PrintWords Go.Proofs.YtelfahcjeldliaaW.PrintLast Go.Proofs.YtelfahcjeldliaaW.PrintMore
attribute [local go_sem] max2_int min2_int max_two min_two max_three min_three max_four min_four   -- for this text's walks alone
set_option linter.unusedVariables false
set_option linter.unusedSimpArgs false
def KeptBut (w w' : World) (v : Value) : Prop := ∀ k o, w.heap[k]? = some o → some k ≠ v.ownBlock → w'.heap[k]? = some o
theorem lt_of_heap {w : World} {k : Nat} {o : Obj} (h : w.heap[k]? = some o) : k < w.heap.size := by
 rcases Nat.lt_or_ge k w.heap.size with q | q
 ·exact q
 ·rw [Array.getElem?_eq_none q] at h; cases h
def Cells (w0 : World) (xs : List Value) (ls : List (List Int)) : Prop :=
 xs.length = ls.length ∧ ∀ (i : Nat) (l : List Int), ls[i]? = some l → ∃ A c, xs[i]? = some (.slice A l.length c) ∧ l.length ≤ c ∧ Kd.C (Kd.int .i64) w0 A l.length l
section
variable {w0 w w1 : World} {xs ys : List Value} {ls ms : List (List Int)} {base : Nat} {v : Value}
theorem Cells.nil (w0 : World) : Cells w0 [] [] := ⟨rfl, fun i l h => by simp at h⟩
theorem Cells.append (h1 : Cells w0 xs ls) (h2 : Cells w0 ys ms) : Cells w0 (xs ++ ys) (ls ++ ms) := by
 refine ⟨by rw [List.length_append, List.length_append, h1.1, h2.1], fun i l h => ?_⟩
 by_cases hi : i < ls.length
 ·rw [List.getElem?_append_left hi] at h
  obtain ⟨A, c, e, r⟩ := h1.2 i l h
  exact ⟨A, c, by rw [List.getElem?_append_left (by rw [h1.1]; exact hi)]; exact e, r⟩
 ·rw [List.getElem?_append_right (by omega)] at h
  obtain ⟨A, c, e, r⟩ := h2.2 _ l h
  exact ⟨A, c, by rw [List.getElem?_append_right (by rw [h1.1]; omega), h1.1]; exact e, r⟩
theorem Cells.take (h : Cells w0 xs ls) (n : Nat) : Cells w0 (xs.take n) (ls.take n) := by
 refine ⟨by rw [List.length_take, List.length_take, h.1], fun i l hl => ?_⟩
 have hi : i < n := by
  rcases Nat.lt_or_ge i n with q | q
  ·exact q
  ·rw [List.getElem?_eq_none (by rw [List.length_take]; omega)] at hl; cases hl
 rw [List.getElem?_take_of_lt hi] at hl ⊢
 exact h.2 i l hl
theorem Cells.drop (h : Cells w0 xs ls) (n : Nat) : Cells w0 (xs.drop n) (ls.drop n) := by
 refine ⟨by rw [List.length_drop, List.length_drop, h.1], fun i l hl => ?_⟩
 rw [List.getElem?_drop] at hl ⊢
 exact h.2 _ l hl
theorem Cells.one {A : Option Addr} {c : Nat} {l : List Int} (hc : l.length ≤ c) (h : Kd.C (Kd.int .i64) w0 A l.length l) : Cells w0 [.slice A l.length c] [l] := by
 refine ⟨rfl, fun i l' hl => ?_⟩
 cases i with
 | zero =>
  obtain rfl : l = l' := by simpa using hl
  exact ⟨A, c, rfl, hc, h⟩
 | succ i => simp at hl
theorem Cells.oneCell (h : Cells w0 xs ls) : ∀ u ∈ xs, u.oneCell' = true := by
 intro u hu
 obtain ⟨i, hi, rfl⟩ := List.getElem_of_mem hu
 have hl : i < ls.length := by rw [← h.1]; exact hi
 obtain ⟨A, c, e, _⟩ := h.2 i _ (List.getElem?_eq_getElem hl)
 rw [List.getElem?_eq_getElem hi] at e
 rw [Option.some.inj e]
 rfl
def Rws (w0 w : World) (base : Nat) (v : Value) (ls : List (List Int)) : Prop := ∃ xs, w.ownsRow base 37 1 v ls.length xs ∧ Cells w0 xs ls
theorem owns_below {e : TypeId} {n : Nat} (h : w.ownsRow base e 1 v n xs) (hb : Below w.heap.size w w1) : w1.ownsRow base e 1 v n xs := by
 refine ⟨h.1, ?_⟩
 rcases h.2 with h1 | ⟨g, cap, cur, hv, hg, hk, r⟩
 ·exact .inl h1
 ·have hlt : g < w.heap.size := by
   rcases Nat.lt_or_ge g w.heap.size with q | q
   ·exact q
   ·rw [Array.getElem?_eq_none q] at hk; cases hk
  exact .inr ⟨g, cap, cur, hv, hg, by rw [hb.block g hlt]; exact hk, r⟩
theorem Rws.below (h : Rws w0 w base v ls) (hb : Below w.heap.size w w1) : Rws w0 w1 base v ls := by
 obtain ⟨xs, h1, h2⟩ := h
 exact ⟨xs, owns_below h1 hb, h2⟩
theorem Rws.reads (h : Rws w0 w base v ls) (hb : Below w0.heap.size w0 w) : ∃ A c, v = .slice A ls.length c ∧ ls.length ≤ c ∧ Kd.C (Kd.slice 3 (Kd.int .i64)) w A ls.length ls := by
 obtain ⟨xs, hown, hcs⟩ := h
 have hcell := fun g hv => hown.cells (g := g) hv
 rcases hown.2 with ⟨rfl, h0⟩ | ⟨g, cap, cur, rfl, hg, hk, hnc, hcm, hsz, ht⟩
 ·have : ls = [] := List.eq_nil_of_length_eq_zero h0
  subst this
  exact ⟨none, 0, rfl, Nat.le_refl _, Kd.C_nil _ _⟩
 ·refine ⟨some ⟨g, 0, none⟩, cap, rfl, hnc, rfl, by simp only [maxLen] at hcm; omega, fun _ => ⟨⟨g, 0, none⟩, rfl, fun j p hj => ?_⟩⟩
  obtain ⟨A, c, e, hc, hC⟩ := hcs.2 j p hj
  refine ⟨[.slice A p.length c], rfl, ⟨A, c, rfl, hc, Kd.C_below hC hb⟩, fun i u hu => ?_⟩
  cases i with
  | zero =>
   obtain rfl : (.slice A p.length c : Value) = u := by simpa using hu
   have := hcell g rfl j _ e
   simpa [Kd.slice] using this
  | succ i => simp at hu
theorem list_of {α : Type} {P : Nat → α → Prop} : ∀ n : Nat, (∀ j, j < n → ∃ u, P j u) → ∃ xs : List α, xs.length = n ∧ ∀ (j : Nat) u, xs[j]? = some u → P j u
 | 0, _ => ⟨[], rfl, fun j u h => by simp at h⟩
 | n + 1, h => by
  obtain ⟨xs, hl, hx⟩ := list_of n (fun j hj => h j (by omega))
  obtain ⟨u, hu⟩ := h n (by omega)
  refine ⟨xs ++ [u], by rw [List.length_append, hl]; rfl, fun j y hy => ?_⟩
  by_cases hj : j < xs.length
  ·rw [List.getElem?_append_left hj] at hy
   exact hx j y hy
  ·rw [List.getElem?_append_right (by omega)] at hy
   have hj2 : j - xs.length = 0 := by
    rcases Nat.eq_zero_or_pos (j - xs.length) with q | q
    ·exact q
    ·rw [List.getElem?_eq_none (by simp only [List.length_cons, List.length_nil]; omega)] at hy; cases hy
   rw [hj2] at hy
   obtain rfl : u = y := by simpa using hy
   have : j = n := by omega
   subst this
   exact hu
theorem cells_of_C {A : Option Addr} (h : Kd.C (Kd.slice 3 (Kd.int .i64)) w A ls.length ls) : ∃ xs, Cells w xs ls ∧ (0 < ls.length → ∃ ad, A = some ad ∧ ∀ (j : Nat) u, xs[j]? = some u → w.cell? (ad.add j) = some u) := by
 by_cases h0 : 0 < ls.length
 ·obtain ⟨ad, e, _⟩ := h.2.2 h0
  subst e
  obtain ⟨xs, hl, hx⟩ := list_of (P := fun j u => ∃ A0 c0, u = .slice A0 (ls.getD j []).length c0 ∧ (ls.getD j []).length ≤ c0 ∧ Kd.C (Kd.int .i64) w A0 (ls.getD j []).length (ls.getD j []) ∧ w.cell? (ad.add j) = some u) ls.length (fun j hj => by
   obtain ⟨ad2, A0, c0, ea, hx, hlc, hC⟩ := at_L1 h (j : Int) (by omega) (by omega)
   cases ea
   have hrd : rd_L1 ls (j : Int) = ls.getD j [] := by unfold rd_L1; rw [Int.toNat_natCast]
   rw [hrd] at hx hlc hC
   rw [Int.toNat_natCast] at hx
   exact ⟨_, A0, c0, rfl, hlc, hC, hx⟩)
  refine ⟨xs, ⟨hl, fun i l hi => ?_⟩, fun _ => ⟨ad, rfl, fun j u hu => by obtain ⟨_, _, _, _, _, hq⟩ := hx j u hu; exact hq⟩⟩
  have hil : i < ls.length := (List.getElem?_eq_some_iff.1 hi).1
  have hd : ls.getD i [] = l := by rw [List.getD_eq_getElem?_getD, hi]; rfl
  obtain ⟨A0, c0, e, hlc, hC, _⟩ := hx i _ (List.getElem?_eq_getElem (by rw [hl]; exact hil))
  rw [hd] at e hlc hC
  exact ⟨A0, c0, by rw [List.getElem?_eq_getElem (by rw [hl]; exact hil), e], hlc, hC⟩
 ·have : ls = [] := List.eq_nil_of_length_eq_zero (by omega)
  subst this
  exact ⟨[], Cells.nil w, fun h => absurd h h0⟩
theorem Rws.lit {g : Nat} (hg : w.heap[g]? = some (.cells #[] 37 (0, 0))) (hb : base ≤ g) : Rws w0 w base (.slice (some ⟨g, 0, none⟩) 0 0) [] :=
 ⟨[], ⟨rfl, .inr ⟨g, 0, #[], rfl, hb, hg, Nat.le_refl _, by simp [maxLen], rfl, rfl⟩⟩, Cells.nil w0⟩
theorem Rws.app (h : Rws w0 w base v ls) (ty : TypeId) (a : Addr) (m c : Nat) (news : List Value) (hn : Cells w0 news ms) (hm : ms.length = m) (hcell : ∀ (j : Nat) u, news[j]? = some u → w.cell? (a.add j) = some u)
  (hl : ls.length + m ≤ 4096) (hbase : base ≤ w.heap.size) :
  ∃ v' w', (Builtin.append_ #[22, 22] ty #[v, .slice (some a) m c]).run Try.prog w = .ok v' w' ∧ Rws w0 w' base v' (ls ++ ms) ∧ Below base w w' := by
 obtain ⟨xs, hown, hcs⟩ := h
 obtain ⟨i0, hi, hzz⟩ := Option.map_eq_some_iff.1 info37
 simp only [Prod.mk.injEq] at hzz
 obtain ⟨hz, hsize, hby⟩ := hzz
 obtain ⟨v', w', hr, h2, h3, _⟩ := run_append_own (P := Try.prog) w base 22 ty 37 i0 (.slice none 0 0) 1 24 Try.underlying22 hi hz hsize hby rfl (by decide) v ls.length xs hown a m c news (by rw [hn.1, hm, Nat.mul_one]) hcell hn.oneCell (by simp only [maxLen]; omega) (by omega) hbase
 refine ⟨v', w', hr, ⟨xs ++ news, by rw [List.length_append, hm]; exact h2, hcs.append hn⟩, ?_⟩
 exact (Below.refl base w).grown h3 hbase (fun k hk => by
  rcases hown.2 with ⟨rfl, _⟩ | ⟨g, cap, cur, rfl, hg, _⟩
  ·cases hk
  ·obtain rfl : g = k := Option.some.inj hk
   exact hg)
end
section
variable {ops : Array Oper} {rest : List Oper} {o : Oper} {a : Act} {Q : Exit → Act → World → Prop}
theorem Rws.step {w0 w : World} (hgd : o.guard = none) (sl x : Operand) (ho : o.op = .call { callee := .builtin .append, args := #[sl, x], argTypes := #[22, 22] }) (base : Nat) (v : Value) (ls ms : List (List Int)) (hs : a.eval sl = v) (hown : Rws w0 w base v ls)
  (ad : Addr) (m c : Nat) (hx : a.eval x = .slice (some ad) m c) (news : List Value) (hn : Cells w0 news ms) (hm : ms.length = m) (hcell : ∀ (j : Nat) u, news[j]? = some u → w.cell? (ad.add j) = some u) (hl : ls.length + m ≤ 4096) (hbase : base ≤ w.heap.size)
  (h : ∀ v' w', Rws w0 w' base v' (ls ++ ms) → Below base w w' → wpList Try.prog ops Q rest (a.put o.dst v') w') : wpList Try.prog ops Q (o :: rest) a w := by
 refine wpList_plain hgd fun K hK => ?_
 obtain ⟨v', w', hr, h2, h3⟩ := hown.app o.type ad m c news hn hm hcell hl hbase
 unfold Oper.wp execOp
 simp only [ho, resolve, invoke, builtin, Sem.run_bind, Sem.run_pure, Result.andThen_ok, List.map_toArray, List.map_cons, List.map_nil, hs, hx, hr]
 exact hK _ _ (h v' w' h2 h3)
end
section
variable {P : Program} {ops : Array Oper} {Q : Exit → Act → World → Prop}
structure VP where
 p : (Nat → Prop) → World → Value → Prop
 move : ∀ B B' W W' v, Below W.heap.size W W' → (∀ k, B k → B' k) → (∀ k, B' k → B k ∨ W.heap.size ≤ k) → p B W v → p B' W' v
def VP.eq (u : Value) : VP := ⟨fun _ _ v => v = u, fun _ _ _ _ _ _ _ _ h => h⟩
def VP.any : VP := ⟨fun _ _ _ => True, fun _ _ _ _ _ _ _ _ h => h⟩
def fillA (vals : Nat → Value) : List (Option Tmp) → Act → Act
 | [], a => a
 | none :: r, a => fillA vals r a
 | some N :: r, a => fillA vals r (a.put (some N) (vals N))
theorem put_same {a : Act} {N : Tmp} {v : Value} (h : N < a.tmps.size) : (a.put (some N) v).eval (.tmp N) = v := by
 simp [Act.put, Act.eval, h]
theorem put_other {a : Act} {N M : Tmp} {v : Value} (h : M ≠ N) : (a.put (some N) v).eval (.tmp M) = a.eval (.tmp M) := by
 simp [Act.put, Act.eval, Array.getD_eq_getD_getElem?, Array.getElem?_setIfInBounds, Ne.symm h]
theorem put_size {a : Act} {N : Option Tmp} {v : Value} : (a.put N v).tmps.size = a.tmps.size := by
 cases N <;> simp [Act.put]
theorem put_defers {a : Act} {N : Option Tmp} {v : Value} : (a.put N v).defers = a.defers := by
 cases N <;> rfl
theorem fillA_size {vals : Nat → Value} : ∀ (ds : List (Option Tmp)) (a : Act), (fillA vals ds a).tmps.size = a.tmps.size
 | [], a => rfl
 | none :: r, a => fillA_size r a
 | some N :: r, a => (fillA_size r _).trans put_size
theorem fillA_defers {vals : Nat → Value} : ∀ (ds : List (Option Tmp)) (a : Act), (fillA vals ds a).defers = a.defers
 | [], a => rfl
 | none :: r, a => fillA_defers r a
 | some N :: r, a => (fillA_defers r _).trans put_defers
theorem fillA_other {vals : Nat → Value} {t : Tmp} : ∀ (ds : List (Option Tmp)) (a : Act), some t ∉ ds → (fillA vals ds a).eval (.tmp t) = a.eval (.tmp t)
 | [], a, _ => rfl
 | none :: r, a, h => fillA_other r a (fun q => h (List.mem_cons_of_mem _ q))
 | some N :: r, a, h => (fillA_other r _ (fun q => h (List.mem_cons_of_mem _ q))).trans (put_other (fun q => h (by rw [q]; exact List.mem_cons_self)))
theorem fillA_at {vals : Nat → Value} {t : Tmp} : ∀ (ds : List (Option Tmp)) (a : Act), some t ∈ ds → t < a.tmps.size → (fillA vals ds a).eval (.tmp t) = vals t
 | [], a, h, _ => by cases h
 | none :: r, a, h, hs => fillA_at r a (by rcases List.mem_cons.1 h with h | h; cases h; exact h) hs
 | some N :: r, a, h, hs => by
  by_cases hr : some t ∈ r
  ·exact fillA_at r _ hr (by rw [put_size]; exact hs)
  ·have : t = N := by
    rcases List.mem_cons.1 h with h | h
    ·exact Option.some.inj h
    ·exact absurd h hr
   subst this
   exact (fillA_other r _ hr).trans (put_same hs)
theorem act_ext {a b : Act} (h1 : a.tmps.size = b.tmps.size) (h2 : a.defers = b.defers) (h3 : ∀ t, t < a.tmps.size → a.eval (.tmp t) = b.eval (.tmp t)) : a = b := by
 obtain ⟨x, d⟩ := a
 obtain ⟨y, e⟩ := b
 simp only at h1 h2
 subst h2
 congr 1
 refine Array.ext h1 (fun i hi hj => ?_)
 have := h3 i hi
 simpa [Act.eval, Array.getD_eq_getD_getElem?, hi, hj] using this
def okL (L : List (Option Tmp)) (n m : Nat) (T : Bool × List (List Nat × List Nat)) (Bt : List Nat) : Bool :=
 decide (m < L.length) && (L.take m).all (fun N => match N with | some t => decide (t < n) | none => false) && decide (L.take m).Nodup && (waitsOk T.2 Bt && (List.range L.length).all (fun d => decide (d < m) || (List.range d).all (fun i => (Bt.getD d 0).testBit i))) && (List.range L.length).all (fun i => ((T.2.getD i ([], [])).1).all (fun j => decide (j < i)))
def Each (C : Nat → Oper → Prop) : Nat → Nat → List Oper → Prop
 | 0, _, _ => True
 | _, _, [] => True
 | f + 1, k, o :: r => C k o ∧ Each C f (k + 1) r
theorem Each.at {C : Nat → Oper → Prop} : ∀ (f k : Nat) (l : List Oper), Each C f k l → ∀ (i : Nat) (o : Oper), i < f → l[i]? = some o → C (k + i) o
 | 0, k, l, _, i, o, hi, _ => absurd hi (Nat.not_lt_zero _)
 | f + 1, k, [], _, i, o, _, h => by simp at h
 | f + 1, k, x :: r, h, 0, o, _, ho => by
  obtain rfl : x = o := by simpa using ho
  exact h.1
 | f + 1, k, x :: r, h, i + 1, o, hi, ho => by
  have := Each.at f (k + 1) r h.2 i o (by omega) (by simpa using ho)
  rwa [show k + 1 + i = k + (i + 1) by omega] at this
def StepOk (P : Program) (ops : Array Oper) (Q : Exit → Act → World → Prop) (a0 : Act) (w0 : World) (L : List (Option Tmp)) (T : Bool × List (List Nat × List Nat)) (V : List VP) (m : Nat) (i : Nat) (o : Oper) : Prop :=
 ∀ (b : Act) (W : World) (B : Nat → Prop), Below w0.heap.size w0 W → (∀ k, B k → w0.heap.size ≤ k ∧ k < W.heap.size) → (∀ (t : Nat) (_ : (L.take m).contains (some t) = false := by kernel_rfl), b.eval (.tmp t) = a0.eval (.tmp t)) →
  (∀ (j t : Nat) (_ : ((T.2.getD i ([], [])).1).contains j = true := by kernel_rfl) (_ : L[j]? = some (some t) := by rfl), (V.getD j VP.any).p B W (b.eval (.tmp t))) →
  ∀ K : Act → World → Prop, (∀ v W', (V.getD i VP.any).p B W' v → Below W.heap.size W W' → K (b.put o.dst v) W') → (∀ v W', (V.getD i VP.any).p (fun k => B k ∨ k = W.heap.size) W' v → Below W.heap.size W W' → W.heap.size < W'.heap.size → K (b.put o.dst v) W') → if Region.wanted o (yielded ops b.tmps) = true then Oper.wp P o b W K Q else K (b.put o.dst undef) W
structure AInv (a0 : Act) (w0 : World) (L : List (Option Tmp)) (m : Nat) (V : List VP) (l : Nat → Bool) (B : Nat → Prop) (a : Act) (w : World) : Prop where
 size : a.tmps.size = a0.tmps.size
 defers : a.defers = a0.defers
 below : Below w0.heap.size w0 w
 boxes : ∀ k, B k → w0.heap.size ≤ k ∧ k < w.heap.size
 other : ∀ t, (∀ i, i < m → L[i]? = some (some t) → l i = false) → a.eval (.tmp t) = a0.eval (.tmp t)
 vals : ∀ i t, i < m → L[i]? = some (some t) → l i = true → (V.getD i VP.any).p B w (a.eval (.tmp t))
theorem nodup_get {L : List (Option Tmp)} (h : L.Nodup) {i j : Nat} {x : Option Tmp} (hi : L[i]? = some x) (hj : L[j]? = some x) : i = j := by
 have hi' := (List.getElem?_eq_some_iff.1 hi)
 have hj' := (List.getElem?_eq_some_iff.1 hj)
 obtain ⟨a1, e1⟩ := hi'
 obtain ⟨b1, e2⟩ := hj'
 rw [List.nodup_iff_pairwise_ne, List.pairwise_iff_getElem] at h
 rcases Nat.lt_trichotomy i j with q | q | q
 ·exact absurd (e1.trans e2.symm) (h i j a1 b1 q)
 ·exact q
 ·exact absurd (e2.trans e1.symm) (h j i b1 a1 q)
theorem countP_lt {p q : Nat → Bool} : ∀ (L : List Nat), (∀ x ∈ L, q x = true → p x = true) → (∃ x ∈ L, p x = true ∧ q x = false) → L.countP q < L.countP p
 | [], _, h => by obtain ⟨x, hx, _⟩ := h; cases hx
 | y :: r, h1, h2 => by
  have hle : ∀ (M : List Nat), (∀ x ∈ M, q x = true → p x = true) → M.countP q ≤ M.countP p := fun M hM => List.countP_mono_left hM
  rw [List.countP_cons, List.countP_cons]
  obtain ⟨x, hx, hp, hq⟩ := h2
  rcases List.mem_cons.1 hx with rfl | hx
  ·rw [hp, hq]
   have := hle r (fun x hx => h1 x (List.mem_cons_of_mem _ hx))
   simp
   omega
  ·have := countP_lt r (fun x hx => h1 x (List.mem_cons_of_mem _ hx)) ⟨x, hx, hp, hq⟩
   have h3 : (if q y = true then 1 else 0) ≤ (if p y = true then 1 else 0) := by
    by_cases hy : q y = true
    ·rw [if_pos hy, if_pos (h1 y List.mem_cons_self hy)]
     exact Nat.le_refl _
    ·rw [if_neg hy]
     exact Nat.zero_le _
   omega
section
variable {a0 : Act} {w0 : World} {L : List (Option Tmp)} {n m : Nat} {V : List VP}
theorem AInv.start (a0 : Act) (w0 : World) (L : List (Option Tmp)) (m : Nat) (V : List VP) {l : Nat → Bool} (hl : ∀ i, l i = false) : AInv a0 w0 L m V l (fun _ => False) a0 w0 :=
 ⟨rfl, rfl, Below.refl _ _, fun _ h => h.elim, fun _ _ => rfl, fun i t _ _ h => by rw [hl i] at h; cases h⟩
theorem AInv.step {l l' : Nat → Bool} {B B' : Nat → Prop} {a : Act} {w w' : World} {i : Nat} {v : Value} {N : Option Tmp} (inv : AInv a0 w0 L m V l B a w) (him : i < m) (hN : L[i]? = some N) (hset1 : l' i = true) (hset : ∀ j, j ≠ i → l' j = l j)
  (huniq : ∀ (i j : Nat) (t : Tmp), i < m → j < m → L[i]? = some (some t) → L[j]? = some (some t) → i = j) (hlt : ∀ (i : Nat) (t : Tmp), i < m → L[i]? = some (some t) → t < a0.tmps.size)
  (hv : (V.getD i VP.any).p B' w' v) (hb : Below w.heap.size w w') (hB0 : ∀ k, B k → B' k) (hB1 : ∀ k, B' k → B k ∨ w.heap.size ≤ k) (hB2 : ∀ k, B' k → w0.heap.size ≤ k ∧ k < w'.heap.size) : AInv a0 w0 L m V l' B' (a.put N v) w' := by
 refine ⟨?_, ?_, ?_, hB2, ?_, ?_⟩
 ·rw [put_size]; exact inv.size
 ·rw [put_defers]; exact inv.defers
 ·exact inv.below.trans (hb.mono inv.below.size)
 ·intro t ht
  have hne : ∀ M, N = some M → t ≠ M := by
   intro M hM htM
   subst htM
   subst hM
   have := ht i him hN
   rw [hset1] at this
   cases this
  rw [show (a.put N v).eval (.tmp t) = a.eval (.tmp t) from by
   cases hM : N with
   | none => rfl
   | some M => exact put_other (hne M hM)]
  refine inv.other t (fun j hj hjt => ?_)
  have := ht j hj hjt
  by_cases hji : j = i
  ·subst hji
   rw [hset1] at this
   cases this
  ·rw [hset j hji] at this
   exact this
 ·intro j t hj hjt hjl
  by_cases hji : j = i
  ·subst hji
   have hM : N = some t := by
    rw [hjt] at hN
    exact (Option.some.inj hN).symm
   rw [hM, put_same (by rw [inv.size]; exact hlt j t hj hjt)]
   exact hv
  ·rw [hset j hji] at hjl
   have hne : ∀ M, N = some M → t ≠ M := by
    intro M hM htM
    subst htM
    subst hM
    exact hji (huniq j i t hj him hjt hN)
   rw [show (a.put N v).eval (.tmp t) = a.eval (.tmp t) from by
    cases hM : N with
    | none => rfl
    | some M => exact put_other (hne M hM)]
   exact (V.getD j VP.any).move B B' _ _ _ hb hB0 hB1 (inv.vals j t hj hjt hjl)
theorem AInv.filled {l : Nat → Bool} {B : Nat → Prop} {a : Act} {w : World} (inv : AInv a0 w0 L m V l B a w) : a = fillA (fun t => a.eval (.tmp t)) (L.take m) a0 := by
 refine act_ext ?_ ?_ (fun t ht => ?_)
 ·rw [fillA_size, inv.size]
 ·rw [fillA_defers, inv.defers]
 ·by_cases hmem : some t ∈ L.take m
  ·rw [fillA_at _ _ hmem (by rw [← inv.size]; exact ht)]
  ·rw [fillA_other _ _ hmem]
   refine inv.other t (fun j hj hjt => ?_)
   exact absurd (List.mem_of_getElem? (i := j) (by rw [List.getElem?_take_of_lt hj]; exact hjt)) hmem
end
def Tail (P : Program) (ops : Array Oper) (Q : Exit → Act → World → Prop) (a0 : Act) (w0 : World) (L : List (Option Tmp)) (m : Nat) (V : List VP) (R : List Oper) : Prop :=
 ∀ (vals : Nat → Value) (F : Act) (W : World) (B : Nat → Prop), F = fillA vals (L.take m) a0 → Below w0.heap.size w0 W → (∀ k, B k → w0.heap.size ≤ k ∧ k < W.heap.size) → (∀ i t, i < m → L[i]? = some (some t) → (V.getD i VP.any).p B W (vals t)) → wpList P ops Q R F W
theorem any_tail {id : Nat} {a0 : Act} {w : World} {T : Bool × List (List Nat × List Nat)} {R : List Oper} (L : List (Option Tmp)) (n m : Nat) (Bt : List Nat) (V : List VP) (hm : P.follows .mixedOrders = true) (hT : rtab .any ops = T) (hL : ops.toList.map (·.dst) = L) (hn : a0.tmps.size = n) (hc : okL L n m T Bt = true) (hR : ops.toList.drop m = R)
  (step : Each (StepOk P ops Q a0 w.drew L T V m) m 0 ops.toList) (last : Tail P ops Q a0 w.drew L m V R) : (Code.region id ops true).wp P Q a0 w := by
 simp only [okL, Bool.and_eq_true, decide_eq_true_eq] at hc
 obtain ⟨⟨⟨⟨c1, c2⟩, c3⟩, c4, c4b⟩, c5⟩ := hc
 have hsz : ops.size = L.length := by rw [← hL]; simp
 have hdst : ∀ (i : Nat) (o : Oper), ops[i]? = some o → L[i]? = some o.dst := by
  intro i o ho
  rw [← hL, List.getElem?_map, Array.getElem?_toList, ho]
  rfl
 have hneeds : ∀ (i : Nat) (o : Oper), ops[i]? = some o → (T.2.getD i ([], [])).1 = needsOf .any o := by
  intro i o ho
  rw [← hT, List.getD_eq_getElem?_getD, rtab_some ho]
  rfl
 have hneed : ∀ (i : Nat) (o : Oper) (l : Array Bool), ops[i]? = some o → (∀ e ∈ o.after, Region.binds .any e = true → l.getD e.on false = true) → ∀ j, ((T.2.getD i ([], [])).1).contains j = true → l.getD j false = true := by
  intro i o l ho hall j hj
  rw [hneeds i o ho] at hj
  unfold needsOf at hj
  rw [List.contains_iff_mem, List.mem_map] at hj
  obtain ⟨e, he, rfl⟩ := hj
  rw [List.mem_filter] at he
  exact hall e (by simpa using he.1) he.2
 have hback : ∀ (i : Nat) (o : Oper) (l : Array Bool), ops[i]? = some o → (∀ j, ((T.2.getD i ([], [])).1).contains j = true → l.getD j false = true) → l.getD i true = false → i ∈ Region.ready .any ops l := by
  intro i o l ho h hl
  refine mem_ready.2 ⟨hl, o, ho, fun e he hb => ?_⟩
  refine h e.on ?_
  rw [hneeds i o ho, List.contains_iff_mem]
  unfold needsOf
  rw [List.mem_map]
  exact ⟨e, by rw [List.mem_filter]; exact ⟨by simpa using he, hb⟩, rfl⟩
 have hlt : ∀ (i : Nat) (t : Tmp), i < m → L[i]? = some (some t) → t < n := by
  intro i t hi ht
  have := List.all_eq_true.1 c2 (some t) (List.mem_of_getElem? (i := i) (by rw [List.getElem?_take_of_lt hi]; exact ht))
  simpa using this
 have huniq : ∀ (i j : Nat) (t : Tmp), i < m → j < m → L[i]? = some (some t) → L[j]? = some (some t) → i = j := by
  intro i j t hi hj h1 h2
  exact nodup_get c3 (by rw [List.getElem?_take_of_lt hi]; exact h1) (by rw [List.getElem?_take_of_lt hj]; exact h2)
 have g1 : ∀ (l : Array Bool) (i : Nat), i < l.size → l.getD i true = false → l.getD i false = false := by
  intro l i hi h
  simp only [Array.getD_eq_getD_getElem?, Array.getElem?_eq_getElem hi, Option.getD_some] at h ⊢
  exact h
 have g2 : ∀ (l : Array Bool) (i : Nat), i < l.size → l.getD i false ≠ true → l.getD i true = false := by
  intro l i hi h
  simp only [Array.getD_eq_getD_getElem?, Array.getElem?_eq_getElem hi, Option.getD_some] at h ⊢
  simpa using h
 have htail : ∀ (l : Array Bool) (d : Nat), ListedClosed .any ops l → l.size = L.length → m ≤ d → d ∈ Region.ready .any ops l → ∀ i, i < d → l.getD i false = true := by
  intro l d hcl hls hmd hd i hid
  apply Classical.byContradiction
  intro hno
  obtain ⟨_, o, ho, _⟩ := mem_ready.1 hd
  have hdl : d < L.length := by rw [← hsz]; exact (Array.getElem?_eq_some_iff.1 ho).1
  have hb := List.all_eq_true.1 c4b d (List.mem_range.2 hdl)
  rw [Bool.or_eq_true, decide_eq_true_eq] at hb
  have hbit := List.all_eq_true.1 (hb.resolve_left (by omega)) i (List.mem_range.2 hid)
  have hTl : T.2.length = L.length := by rw [← hT, rtab_length, hsz]
  have hr := reach_bit c4 (d + 1) d (by omega) (by rw [hTl]; exact hdl) hbit
  rw [← hT, ← reach_eq] at hr
  exact Region.reach_not_ready hcl hr (g2 l i (by omega) hno) hd
 have hfirst : ∀ (l : Array Bool), l.size = L.length → (∃ i, i < L.length ∧ l.getD i true = false) → Region.ready .any ops l ≠ [] := by
  intro l hls ⟨i, hi, hil⟩ hr
  have fst : ∀ (d i : Nat), d = i → (i < L.length ∧ l.getD i true = false) → ∃ i0, i0 < L.length ∧ l.getD i0 true = false ∧ ∀ j, j < i0 → l.getD j false = true := by
   intro d
   induction d using Nat.strongRecOn with
   | _ d ih =>
    intro i hd hi
    by_cases h : ∀ j, j < i → l.getD j false = true
    ·exact ⟨i, hi.1, hi.2, h⟩
    ·simp only [Classical.not_forall] at h
     obtain ⟨j, hj, hjl⟩ := h
     exact ih j (by omega) j rfl ⟨by omega, g2 l j (by omega) hjl⟩
  obtain ⟨i0, h1, h2, h3⟩ := fst i i rfl ⟨hi, hil⟩
  have ho : ops[i0]? = some (ops[i0]'(by omega)) := Array.getElem?_eq_getElem (by omega)
  have := hback i0 _ l ho (fun j hj => h3 j (by
   have := List.all_eq_true.1 c5 i0 (List.mem_range.2 h1)
   have := List.all_eq_true.1 this j (List.contains_iff_mem.1 hj)
   simpa using this)) h2
  rw [hr] at this
  cases this
 have hset : ∀ (l : Array Bool) (i j : Nat), j ≠ i → ∀ b, (l.setIfInBounds i true).getD j b = l.getD j b := by
  intro l i j hj b
  simp [Array.getD_eq_getD_getElem?, Array.getElem?_setIfInBounds, Ne.symm hj]
 have hset1 : ∀ (l : Array Bool) (i : Nat), i < l.size → ∀ b, (l.setIfInBounds i true).getD i b = true := by
  intro l i hi b
  simp [Array.getD_eq_getD_getElem?, Array.getElem?_setIfInBounds, hi]
 -- the tail, one by one
 have tail : ∀ (q d : Nat) (l : Array Bool) (a : Act) (W : World) (fuel : Nat), d + q = L.length → m ≤ d → q ≤ fuel → l.size = L.length → ListedClosed .any ops l → (∀ i, i < d → l.getD i false = true) → (∀ i, d ≤ i → i < L.length → l.getD i true = false) → wpList P ops Q (ops.toList.drop d) a W → wpAny P .any ops Q fuel l a W := by
  intro q
  induction q with
  | zero =>
   intro d l a W fuel hd hmd hq hls hcl hall _ hw
   rw [List.drop_of_length_le (by rw [Array.length_toList]; omega)] at hw
   refine wpAny_done ?_ hw fuel
   rw [List.eq_nil_iff_forall_not_mem]
   intro j hj
   obtain ⟨q1, oj, hoj, _⟩ := mem_ready.1 hj
   have hjm : j < L.length := by rw [← hsz]; exact (Array.getElem?_eq_some_iff.1 hoj).1
   have := g1 l j (by omega) q1
   rw [hall j (by omega)] at this
   cases this
  | succ q ih =>
   intro d l a W fuel hd hmd hq hls hcl hall hun hw
   obtain ⟨fuel, rfl⟩ : ∃ f, fuel = f + 1 := ⟨fuel - 1, by omega⟩
   have hdl : d < ops.toList.length := by rw [Array.length_toList]; omega
   rw [List.drop_eq_getElem_cons hdl] at hw
   refine ⟨fun hr => absurd hr (hfirst l hls ⟨d, by omega, hun d (Nat.le_refl _) (by omega)⟩), fun i hi => ?_⟩
   have hid : i = d := by
    obtain ⟨q1, oi, hoi, _⟩ := mem_ready.1 hi
    have hil : i < L.length := by rw [← hsz]; exact (Array.getElem?_eq_some_iff.1 hoi).1
    rcases Nat.lt_trichotomy i d with h | h | h
    ·have := g1 l i (by omega) q1
     rw [hall i h] at this
     cases this
    ·exact h
    ·have := htail l i hcl hls (by omega) hi d h
     rw [g1 l d (by omega) (hun d (Nat.le_refl _) (by omega))] at this
     cases this
   subst hid
   have ho : ops[i]? = some ops.toList[i] := by rw [← Array.getElem?_toList]; exact List.getElem?_eq_getElem hdl
   have hw2 : wpOp P ops Q i (wpList P ops Q (ops.toList.drop (i + 1))) a W := by
    unfold wpOp
    rw [ho]
    exact hw
   refine wpOp_mono (fun a' w' h => ?_) hw2
   refine ih (i + 1) _ a' w' fuel (by omega) (by omega) (by omega) (by rw [Array.size_setIfInBounds]; exact hls) (hcl.set hi) (fun j hj => ?_) (fun j hj hjl => ?_) h
   ·by_cases hji : j = i
    ·subst hji; exact hset1 l j (by omega) _
    ·rw [hset l i j hji]; exact hall j (by omega)
   ·rw [hset l i j (by omega)]
    exact hun j (by omega) hjl
 refine wp_region_any hm ?_
 have key : ∀ (fuel : Nat) (l : Array Bool) (B : Nat → Prop) (a : Act) (W : World), AInv a0 w.drew L m V (fun i => l.getD i false) B a W → l.size = L.length → ListedClosed .any ops l → (∀ i, m ≤ i → i < L.length → l.getD i true = false) → (List.range L.length).countP (fun i => !l.getD i true) ≤ fuel → wpAny P .any ops Q fuel l a W := by
  intro fuel
  induction fuel with
  | zero =>
   intro l B a W inv hls hcl hun hf
   have h0 : (List.range L.length).countP (fun i => !l.getD i true) = 0 := by omega
   rw [List.countP_eq_zero] at h0
   exact absurd (by rw [hun m (Nat.le_refl _) c1]; rfl) (h0 m (List.mem_range.2 c1))
  | succ fuel ih =>
   intro l B a W inv hls hcl hun hf
   refine ⟨fun hr => absurd hr (hfirst l hls ⟨m, c1, hun m (Nat.le_refl _) c1⟩), fun i hi => ?_⟩
   obtain ⟨h1, o, ho, h2'⟩ := mem_ready.1 hi
   have h2 := hneed i o l ho h2'
   have hil : i < L.length := by rw [← hsz]; exact (Array.getElem?_eq_some_iff.1 ho).1
   by_cases him : i < m
   ·unfold wpOp
    rw [ho]
    simp only
    have hst := Each.at m 0 ops.toList step i o him (by rw [Array.getElem?_toList]; exact ho)
    rw [Nat.zero_add] at hst
    have hgo : ∀ (B' : Nat → Prop) v W', (V.getD i VP.any).p B' W' v → Below W.heap.size W W' → (∀ k, B k → B' k) → (∀ k, B' k → B k ∨ W.heap.size ≤ k) → (∀ k, B' k → w.drew.heap.size ≤ k ∧ k < W'.heap.size) → wpAny P .any ops Q fuel (l.setIfInBounds i true) (a.put o.dst v) W' := by
     intro B' v W' hv hb hB0 hB1 hB2
     refine ih _ B' _ _ (inv.step him (hdst i o ho) (hset1 l i (by omega) _) (fun j hj => hset l i j hj _) huniq (fun i t h3 h4 => by rw [hn]; exact hlt i t h3 h4) hv hb hB0 hB1 hB2) (by rw [Array.size_setIfInBounds]; exact hls) (hcl.set hi) (fun j hj hjl => by rw [hset l i j (by omega)]; exact hun j hj hjl) ?_
     have := countP_lt (p := fun j => !l.getD j true) (q := fun j => !(l.setIfInBounds i true).getD j true) (List.range L.length) (fun j _ hq => by
      by_cases hji : j = i
      ·subst hji
       rw [hset1 l j (by omega)] at hq
       cases hq
      ·rwa [hset l i j hji] at hq) ⟨i, List.mem_range.2 hil, by rw [h1]; rfl, by rw [hset1 l i (by omega)]; rfl⟩
     omega
    have hst2 := hst a W B inv.below inv.boxes (fun t ht => inv.other t (fun j hj hjt => absurd (List.contains_iff_mem.2 (List.mem_of_getElem? (i := j) (by rw [List.getElem?_take_of_lt hj]; exact hjt))) (by rw [ht]; simp)))
     (fun j t hj hjt => by
      have hjm : j < m := by
       have := List.all_eq_true.1 c5 i (List.mem_range.2 hil)
       have := List.all_eq_true.1 this j (List.contains_iff_mem.1 hj)
       simp only [decide_eq_true_eq] at this
       omega
      exact inv.vals j t hjm hjt (h2 j hj)) (wpAny P .any ops Q fuel (l.setIfInBounds i true))
     (fun v W' hv hb => hgo B v W' hv hb (fun k hk => hk) (fun k hk => .inl hk) (fun k hk => ⟨(inv.boxes k hk).1, Nat.lt_of_lt_of_le (inv.boxes k hk).2 hb.size⟩))
     (fun v W' hv hb hlt2 => hgo _ v W' hv hb (fun k hk => .inl hk) (fun k hk => hk.elim .inl (fun h => .inr (Nat.le_of_eq h.symm))) (fun k hk => hk.elim (fun hk => ⟨(inv.boxes k hk).1, Nat.lt_of_lt_of_le (inv.boxes k hk).2 hb.size⟩) (fun h => by rw [h]; exact ⟨inv.below.size, hlt2⟩)))
    by_cases hw : Region.wanted o (yielded ops a.tmps) = true
    ·rw [if_pos hw] at hst2 ⊢
     exact .inl hst2
    ·rw [if_neg hw] at hst2 ⊢
     exact hst2
   ·have hall := htail l i hcl hls (by omega) hi
    have hime : i = m := by
     rcases Nat.lt_or_ge m i with h | h
     ·have := hall m h
      rw [g1 l m (by omega) (hun m (Nat.le_refl _) c1)] at this
      cases this
     ·omega
    subst hime
    have hl := last (fun t => a.eval (.tmp t)) a W B inv.filled inv.below inv.boxes (fun j t hj hjt => inv.vals j t hj hjt (hall j hj))
    rw [← hR] at hl
    have hdl : i < ops.toList.length := by rw [Array.length_toList]; omega
    rw [List.drop_eq_getElem_cons hdl] at hl
    have ho2 : ops[i]? = some ops.toList[i] := by rw [← Array.getElem?_toList]; exact List.getElem?_eq_getElem hdl
    have hw2 : wpOp P ops Q i (wpList P ops Q (ops.toList.drop (i + 1))) a W := by
     unfold wpOp
     rw [ho2]
     exact hl
    refine wpOp_mono (fun a' w' h => ?_) hw2
    refine tail (L.length - (i + 1)) (i + 1) _ a' w' fuel (by omega) (by omega) ?_ (by rw [Array.size_setIfInBounds]; exact hls) (hcl.set hi) (fun j hj => ?_) (fun j hj hjl => ?_) h
    ·have hle : L.length - i ≤ (List.range L.length).countP (fun j => !l.getD j true) := by
      have hcount : ∀ (k : Nat), k ≤ L.length → k - i ≤ (List.range k).countP (fun j => !l.getD j true) := by
       intro k
       induction k with
       | zero => intro _; omega
       | succ k ihk =>
        intro hk
        rw [List.range_succ, List.countP_append, List.countP_cons, List.countP_nil]
        have := ihk (by omega)
        by_cases hki : i ≤ k
        ·rw [hun k hki (by omega)]
         simp only [Bool.not_false, if_true]
         omega
        ·omega
      exact hcount L.length (Nat.le_refl _)
     omega
    ·by_cases hji : j = i
     ·subst hji; exact hset1 l j (by omega) _
     ·rw [hset l i j hji]; exact hall j (by omega)
    ·rw [hset l i j (by omega)]
     exact hun j (by omega) hjl
 refine key ops.size _ (fun _ => False) a0 w.drew (AInv.start a0 w.drew L m V (fun i => ?_)) (by rw [Array.size_replicate, hsz]) (fun j oj hj hl => ?_) (fun i _ hi => ?_) ?_
 ·by_cases hi : i < ops.size <;> simp [Array.getD_eq_getD_getElem?, hi]
 ·exfalso
  by_cases hi : j < ops.size <;> simp [Array.getD_eq_getD_getElem?, hi] at hl
 ·simp [Array.getD_eq_getD_getElem?, hsz, hi]
 ·rw [hsz]
  exact Nat.le_trans List.countP_le_length (by simp)
end
section
variable {P : Program} {ops : Array Oper} {Q : Exit → Act → World → Prop} {o : Oper} {b : Act} {W : World} {K : Act → World → Prop} {s s1 s2 s3 : Tmp}
theorem tm_eval {b : Act} {t : Tmp} {v : Value} (h : b.eval (.tmp t) = v) : b.tmps[t]?.getD undef = v := by
 rw [← h]
 simp [Act.eval]
theorem wn_ (hg : o.guard = none := by rfl) : Region.wanted o (yielded ops b.tmps) = true := by unfold Region.wanted; rw [hg]
theorem gd_step {C : Bool} {u : Value} (hw : Region.wanted o (yielded ops b.tmps) = C) (hr : C = true → (execOp b.eval o).run P W = .ok (.value u) W) (hK : K (b.put o.dst (cond C u undef)) W) :
  if Region.wanted o (yielded ops b.tmps) = true then Oper.wp P o b W K Q else K (b.put o.dst undef) W := by
 cases C with
 | true => exact value_ hw rfl (hr rfl) hK
 | false => rw [hw]; exact hK
theorem x_move {u : Value} (ho : o.op = .move (.tmp s)) (h : b.eval (.tmp s) = u) : (execOp b.eval o).run P W = .ok (.value u) W := by
 unfold execOp
 rw [ho]
 simp only [h]
 rfl
theorem x_call {f : FuncId} {fn : Func} {aa : Array Operand} {ts : Array TypeId} {args : Array Value} (hf : P.funcs[f]? = some fn) (hname : (fn.name == "runtime.NumGoroutine") = false) (hb : fn.body.isSome = true) (ho : o.op = .call { callee := .value (.func f), args := aa, argTypes := ts }) (h : aa.map b.eval = args) : (execOp b.eval o).run P W = .ok (.enter f args) W := by
 have he := enters_ hf hname hb args W
 unfold execOp
 simp [ho, resolve, Deferred.ofValue, invoke, Act.eval, h, he]
theorem args1 {b : Act} {p : Operand} {x : Value} (h1 : b.eval p = x) : (#[p] : Array Operand).map b.eval = #[x] := by
 simp only [List.map_toArray, List.map_cons, List.map_nil, h1]
end
section
variable {ops : Array Oper} {Q : Exit → Act → World → Prop} {o : Oper} {b : Act} {W : World} {K : Act → World → Prop} {s s1 s2 s3 : Tmp}
theorem x_slhi22 {ad : Addr} {n c k : Nat} (ho : o.op = .slice 22 (.tmp s) none (some (.tmp s2)) none) (h : b.eval (.tmp s) = .slice (some ad) n c) (h2 : b.eval (.tmp s2) = .int .i64 k) (hk : k ≤ c) : (execOp b.eval o).run Try.prog W = .ok (.value (.slice (some ad) k c)) W := by
 have hu22 := Try.underlying22
 have hk2 : (k : Int) ≤ (c : Int) := Int.ofNat_le.2 hk
 have hk0 : (0 : Int) ≤ (k : Int) := Int.natCast_nonneg _
 replace h := tm_eval h
 replace h2 := tm_eval h2
 unfold execOp
 rw [ho]
 go_simp
theorem x_sllo22 {ad : Addr} {n c k : Nat} (ho : o.op = .slice 22 (.tmp s) (some (.tmp s2)) none none) (h : b.eval (.tmp s) = .slice (some ad) n c) (h2 : b.eval (.tmp s2) = .int .i64 k) (hk : k ≤ n) (hc : n ≤ c) : (execOp b.eval o).run Try.prog W = .ok (.value (.slice (some (if c = k then ad else ad.add k)) (n - k) (c - k))) W := by
 have hu22 := Try.underlying22
 have hk2 : (k : Int) ≤ (n : Int) := Int.ofNat_le.2 hk
 have hk0 : (0 : Int) ≤ (k : Int) := Int.natCast_nonneg _
 replace h := tm_eval h
 replace h2 := tm_eval h2
 unfold execOp
 rw [ho]
 go_simp
 by_cases hck : c = k
 ·rw [if_pos hck, if_pos hck]
 ·rw [if_neg hck, if_neg hck]
end
section
variable {ops : Array Oper} {rest : List Oper} {o : Oper} {a : Act} {Q : Exit → Act → World → Prop}
theorem app_eq_step {w w' : World} {v1 v2 v' : Value} (hgd : o.guard = none) (sl x : Operand) (ho : o.op = .call { callee := .builtin .append, args := #[sl, x], argTypes := #[22, 22] }) (hs : a.eval sl = v1) (hx : a.eval x = v2)
  (hr : ∀ ty, (Builtin.append_ #[22, 22] ty #[v1, v2]).run Try.prog w = .ok v' w') (h : wpList Try.prog ops Q rest (a.put o.dst v') w') : wpList Try.prog ops Q (o :: rest) a w := by
 refine wpList_plain hgd fun K hK => ?_
 unfold Oper.wp execOp
 simp only [ho, resolve, invoke, builtin, Sem.run_bind, Sem.run_pure, Result.andThen_ok, List.map_toArray, List.map_cons, List.map_nil, hs, hx, hr]
 exact hK _ _ h
end
theorem del_core {w0 w : World} {base g m cap : Nat} {ls : List (List Int)} (n : Nat) (h : Rws w0 w base (.slice (some ⟨g, 0, none⟩) (m + 1) cap) ls) (hm : ls.length = m + 1) (hn : n < ls.length) :
  ∃ w1 w2, (∀ ty, (Builtin.append_ #[22, 22] ty #[.slice (some ⟨g, 0, none⟩) n cap, .slice (some (if cap = n + 1 then ⟨g, 0, none⟩ else (⟨g, 0, none⟩ : Addr).add (n + 1))) (m + 1 - (n + 1)) (cap - (n + 1))]).run Try.prog w = .ok (.slice (some ⟨g, 0, none⟩) m cap) w1) ∧
   (∀ ty, (Builtin.clear_ #[22] ty #[.slice (some ⟨g, m, none⟩) 1 (cap - m)]).run Try.prog w1 = .ok (.tuple #[]) w2) ∧ Rws w0 w2 base (.slice (some ⟨g, 0, none⟩) m cap) (ls.eraseIdx n) ∧ Below base w w2 ∧ (∀ k o, w.heap[k]? = some o → k ≠ g → w2.heap[k]? = some o) := by
 obtain ⟨xs, hown, hcs⟩ := h
 have hcell := fun g hv => hown.cells (g := g) hv
 have hLn : 0 < ls.length := by omega
 rcases hown.2 with ⟨hv1, h0⟩ | ⟨g2, cap2, cur, hv2, hg, hk, hnc, hcm, hsz, ht⟩
 ·omega
 injection hv2 with e1 e2 e3
 cases e1
 subst e3
 replace hcell := hcell g rfl
 obtain ⟨i0, hi, hzz⟩ := Option.map_eq_some_iff.1 info37
 simp only [Prod.mk.injEq] at hzz
 obtain ⟨hz, hsize, hby⟩ := hzz
 have hxl : xs.length = m + 1 := by rw [hcs.1, hm]
 rw [hm, Nat.mul_one] at ht
 have hcsz : cur.size = cap := by rw [hsz, Nat.mul_one]
 have hdl : (xs.drop (n + 1)).length = m - n := by rw [List.length_drop, hxl]; omega
 have hct : cur.toList.take n = xs.take n := by
  rw [← ht, List.take_take, Nat.min_eq_left (by omega)]
 -- the append
 have hap : ∀ ty, (Builtin.append_ #[22, 22] ty #[.slice (some ⟨g, 0, none⟩) n cap, .slice (some (if cap = n + 1 then ⟨g, 0, none⟩ else (⟨g, 0, none⟩ : Addr).add (n + 1))) (m + 1 - (n + 1)) (cap - (n + 1))]).run Try.prog w
   = .ok (.slice (some ⟨g, 0, none⟩) m cap) (w.setRow g (xs.take n ++ xs.drop (n + 1) ++ cur.toList.drop m).toArray) := by
  intro ty
  have hr := run_append_room (P := Try.prog) w 22 ty 37 i0 Try.underlying22 hi g n cap cur hk (if cap = n + 1 then ⟨g, 0, none⟩ else (⟨g, 0, none⟩ : Addr).add (n + 1)) (m + 1 - (n + 1)) (cap - (n + 1)) (xs.drop (n + 1)) (by rw [hdl, hsize]; omega) (by
   intro j u hj
   have hjl : j < (xs.drop (n + 1)).length := (List.getElem?_eq_some_iff.1 hj).1
   rw [if_neg (by omega)]
   rw [List.getElem?_drop] at hj
   have := hcell _ u hj
   have e1 : ((⟨g, 0, none⟩ : Addr).add (n + 1)).add j = (⟨g, 0, none⟩ : Addr).add (n + 1 + j) := by simp [Addr.add]
   rw [e1]
   exact this) (fun u hu => hcs.oneCell u (List.mem_of_mem_drop hu)) (by omega) (by rw [hsize, hdl]; omega)
  rw [hsize, hdl, Nat.mul_one, hct, show n + (m + 1 - (n + 1)) = m by omega, show n + (m - n) = m by omega] at hr
  exact hr
 generalize hC : (xs.take n ++ xs.drop (n + 1) ++ cur.toList.drop m).toArray = C at hap
 have hCs : C.size = cap := by rw [← hC]; simp only [List.size_toArray, List.length_append, List.length_take, List.length_drop, Array.length_toList]; omega
 have hk2 : (w.setRow g C).heap[g]? = some (.cells C 37 (0, 0)) := setRow_heap w g cur C 37 _ hk
 have hclr : ∀ ty, (Builtin.clear_ #[22] ty #[.slice (some ⟨g, m, none⟩) 1 (cap - m)]).run Try.prog (w.setRow g C) = .ok (.tuple #[]) ((w.setRow g C).setCell ⟨g, m, none⟩ (.slice none 0 0)) := by
  intro ty
  have := Lib.run_clear_slice (P := Try.prog) (w.setRow g C) 22 37 ty (.slice none 0 0) Try.underlying22 (fun W => by simp [zeroValue, typeInfo, hi, hz]) rfl rfl g m 1 (cap - m) (by decide)
   (fun j hj => by
    have : m + j < C.size := by omega
    simp [World.cell?, hk2, this])
   (fun j hj => by simp [World.frozen?, hk2])
  exact this
 have hb1 : Below base w (w.setRow g C) := ⟨rfl, rfl, rfl, by simp, fun k hk' => setRow_other w g k _ (by omega)⟩
 have hb2 : Below base w ((w.setRow g C).setCell ⟨g, m, none⟩ (.slice none 0 0)) := hb1.setCell (p := ⟨g, m, none⟩) hg _
 have hend : Rws w0 ((w.setRow g C).setCell ⟨g, m, none⟩ (.slice none 0 0)) base (.slice (some ⟨g, 0, none⟩) m cap) (ls.eraseIdx n) := by
  have hel : (ls.eraseIdx n).length = m := by rw [List.length_eraseIdx_of_lt hn, hm]; rfl
  rw [setCell_eq_setRow (w.setRow g C) g m C 37 (0, 0) _ hk2]
  refine ⟨xs.take n ++ xs.drop (n + 1), ⟨by rw [hel, List.length_append, List.length_take, hdl]; omega, .inr ⟨g, cap, C.setIfInBounds m (.slice none 0 0), by rw [hel], hg, setRow_heap _ g C _ 37 _ hk2, by omega, hcm, by rw [Array.size_setIfInBounds, hCs, Nat.mul_one], ?_⟩⟩, ?_⟩
  ·rw [hel, Nat.mul_one, Array.toList_setIfInBounds, List.take_set_of_le (Nat.le_refl _), ← hC]
   rw [show m = (xs.take n ++ xs.drop (n + 1)).length by rw [List.length_append, List.length_take, hdl]; omega]
   exact List.take_left
  ·rw [List.eraseIdx_eq_take_drop_succ]
   exact (hcs.take n).append (hcs.drop (n + 1))
 refine ⟨_, _, hap, hclr, hend, hb2, fun k o hk' hne => ?_⟩
 rw [Below.heap_setCell _ ⟨g, m, none⟩ _ k hne, setRow_other w g k _ hne]
 exact hk'
def del_T : Bool × List (List Nat × List Nat) := (true, [([], []), ([], []), ([0, 1], [0, 1]), ([], []), ([], []), ([3, 4], [3, 4]), ([2, 5], [2, 5]), ([6, 6, 0, 1, 2, 3, 4, 5, 6], [0, 3, 6])])
theorem del_tab : rtab .any (opsOf Try.f102 5) = del_T := by kernel_rfl
set_option maxHeartbeats 4000000 in
set_option maxRecDepth 100000 in
theorem delete_any {w0 w : World} {base : Nat} {v : Value} {ls : List (List Int)} (n : Nat) (h : Rws w0 w base v ls) (hn : n < ls.length) (hl : ls.length ≤ 4096) :
  Calls Try.prog 102 #[v, .int .i64 n, .int .i64 ((n + 1 : Nat) : Int)] w fun e w' => ∃ v', e = .returned v' ∧ Rws w0 w' base v' (ls.eraseIdx n) ∧ Below base w w' ∧ KeptBut w w' v := by
 obtain ⟨g, cap, m, rfl, hm, hcap, hg0⟩ : ∃ g cap m, v = .slice (some ⟨g, 0, none⟩) (m + 1) cap ∧ ls.length = m + 1 ∧ m + 1 ≤ cap ∧ base ≤ w.heap.size := by
  obtain ⟨xs, hown, hcs⟩ := h
  rcases hown.2 with ⟨rfl, h0⟩ | ⟨g, cap, cur, hv, hg, hk, hnc, hcm, hsz, ht⟩
  ·omega
  ·have hgl : g < w.heap.size := by
    rcases Nat.lt_or_ge g w.heap.size with q | q
    ·exact q
    ·rw [Array.getElem?_eq_none q] at hk; cases hk
   obtain ⟨m, hm⟩ : ∃ m, ls.length = m + 1 := ⟨ls.length - 1, by omega⟩
   exact ⟨g, cap, m, by rw [hv, hm], hm, by omega, by omega⟩
 have HH := Aside0.mk h
 clear h
 have f1 : ¬ (n : Int) = ((n + 1 : Nat) : Int) := by omega
 have f1b : ((n : Int) == ((n + 1 : Nat) : Int)) = false := beq_eq_false_iff_ne.mpr f1
 have f2 : (n : Int) ≤ ((n + 1 : Nat) : Int) := by omega
 have f3 : ((n + 1 : Nat) : Int) ≤ ((m + 1 : Nat) : Int) := by omega
 have f4 : ((m + 1 : Nat) : Int) ≤ (cap : Int) := by omega
 have f5 : (0 : Int) ≤ (n : Int) := by omega
 have f6 : n ≤ cap := by omega
 have f7 : n + 1 ≤ m + 1 := by omega
 have f8 : m + 1 ≤ cap := by omega
 go_enter Try.func102, Try.ntmps102
 go_wp2
 refine any_tail [some 20, some 21, some 22, some 23, some 24, some 25, some 26, some 0] 33 6 [0, 0, 3, 0, 0, 24, 63, 127] [VP.eq (.slice (some ⟨g, 0, none⟩) (m + 1) cap), VP.eq (.int .i64 (n : Int)), VP.eq (.slice (some ⟨g, 0, none⟩) n cap), VP.eq (.slice (some ⟨g, 0, none⟩) (m + 1) cap), VP.eq (.int .i64 ((n + 1 : Nat) : Int)), VP.eq (.slice (some (if cap = n + 1 then ⟨g, 0, none⟩ else (⟨g, 0, none⟩ : Addr).add (n + 1))) (m + 1 - (n + 1)) (cap - (n + 1)))] rfl del_tab rfl rfl (by kernel_rfl) rfl ⟨?_, ?_, ?_, ?_, ?_, ?_, trivial⟩ ?_
 ·intro bq W B hW hB hb hd K hK hK2; exact gd_step (C := true) wn_ (fun _ => x_move rfl (hb 0)) (hK _ W rfl (Below.refl _ _))
 ·intro bq W B hW hB hb hd K hK hK2; exact gd_step (C := true) wn_ (fun _ => x_move rfl (hb 1)) (hK _ W rfl (Below.refl _ _))
 ·intro bq W B hW hB hb hd K hK hK2; exact gd_step (C := true) wn_ (fun _ => x_slhi22 rfl (hd 0 20) (hd 1 21) f6) (hK _ W rfl (Below.refl _ _))
 ·intro bq W B hW hB hb hd K hK hK2; exact gd_step (C := true) wn_ (fun _ => x_move rfl (hb 0)) (hK _ W rfl (Below.refl _ _))
 ·intro bq W B hW hB hb hd K hK hK2; exact gd_step (C := true) wn_ (fun _ => x_move rfl (hb 2)) (hK _ W rfl (Below.refl _ _))
 ·intro bq W B hW hB hb hd K hK hK2; exact gd_step (C := true) wn_ (fun _ => x_sllo22 rfl (hd 3 23) (hd 4 24) f7 f8) (hK _ W rfl (Below.refl _ _))
 ·intro vals F W B hF hW hBB hV
  have hf22 : vals 22 = .slice (some ⟨g, 0, none⟩) n cap := hV 2 22 (of_decide_eq_true (by kernel_rfl)) rfl
  have hf25 : vals 25 = .slice (some (if cap = n + 1 then ⟨g, 0, none⟩ else (⟨g, 0, none⟩ : Addr).add (n + 1))) (m + 1 - (n + 1)) (cap - (n + 1)) := hV 5 25 (of_decide_eq_true (by kernel_rfl)) rfl
  have hbw : Below w.heap.size w W := (below_drew1 (Below.refl w.heap.size w)).trans hW
  obtain ⟨w1, w2, hap, hclr, hend, hb2, hkb⟩ := del_core n (HH.out.below hbw) hm hn
  generalize (if cap = n + 1 then (⟨g, 0, none⟩ : Addr) else (⟨g, 0, none⟩ : Addr).add (n + 1)) = ad2 at hap hf25
  generalize m + 1 - (n + 1) = q at hap hf25
  generalize cap - (n + 1) = c2 at hap hf25
  have HA := Aside0.mk hap
  have HC2 := Aside0.mk hclr
  have HE := Aside0.mk (And.intro hend (And.intro ((hbw.mono hg0).trans hb2) (show KeptBut w w2 (.slice (some ⟨g, 0, none⟩) (m + 1) cap) from fun k o hk hne => hkb k o (by rw [hbw.block k (lt_of_heap hk)]; exact hk) (fun e => hne (by rw [e]; rfl)))))
  rw [hF]
  clear hF hV hBB hap hclr hend hb2 hkb hW hbw
  simp only [List.take, fillA, Act.put, List.setIfInBounds_toArray, List.set_cons_zero, List.set_cons_succ, hf22, hf25]
  clear hf22 hf25
  have g1 : (m : Int) ≤ ((m + 1 : Nat) : Int) := by omega
  have g2 : (0 : Int) ≤ (m : Int) := by omega
  have g3 : ¬ cap = m := by omega
  have g4 : m + 1 - m = 1 := by omega
  refine app_eq_step rfl (.tmp 22) (.tmp 25) rfl rfl rfl HA.out ?_
  have hcl0 := HC2.out 0
  go_wp2
  go_ret
  exact ⟨_, rfl, HE.out.1, HE.out.2.1, HE.out.2.2⟩
theorem lit_app {w0 w : World} {base g : Nat} {ms : List (List Int)} (hk : w.heap[g]? = some (.cells #[] 37 (0, 0))) (hbg : base ≤ g) (hbw : base ≤ w.heap.size) (a : Addr) (m c : Nat) (news : List Value) (hn : Cells w0 news ms) (hm : ms.length = m)
  (hcell : ∀ (j : Nat) u, news[j]? = some u → w.cell? (a.add j) = some u) (hl : m ≤ 4096) :
  ∃ v' w', (∀ ty, (Builtin.append_ #[22, 22] ty #[.slice (some ⟨g, 0, none⟩) 0 0, .slice (some a) m c]).run Try.prog w = .ok v' w') ∧ Rws w0 w' base v' ms ∧ Below w.heap.size w w' := by
 obtain ⟨i0, hi, hzz⟩ := Option.map_eq_some_iff.1 info37
 simp only [Prod.mk.injEq] at hzz
 obtain ⟨hz, hsize, hby⟩ := hzz
 have hnl : news.length = m := by rw [hn.1, hm]
 by_cases h0 : m = 0
 ·have hm0 : ms = [] := List.eq_nil_of_length_eq_zero (by omega)
  have hn0 : news = [] := List.eq_nil_of_length_eq_zero (by omega)
  subst hm0 hn0 h0
  refine ⟨.slice (some ⟨g, 0, none⟩) 0 0, w, fun ty => ?_, Rws.lit hk hbg, Below.refl _ _⟩
  have hr := run_append_room (P := Try.prog) w 22 ty 37 i0 Try.underlying22 hi g 0 0 #[] hk a 0 c [] (by simp) (fun j u h => by simp at h) (fun u h => by simp at h) (Nat.le_refl _) (by simp)
  rw [hr]
  have : (w.setRow g (List.take (0 * i0.size) (#[] : Array Value).toList ++ [] ++ List.drop (0 * i0.size + ([] : List Value).length) (#[] : Array Value).toList).toArray) = w := by
   have := setRow_self w g #[] 37 (0, 0) hk
   simpa using this
  rw [this]
 ·have hr := fun ty => run_append_grow (P := Try.prog) w 22 ty 37 i0 (.slice none 0 0) Try.underlying22 hi hz ⟨g, 0, none⟩ 0 0 [] (by simp) (fun j v h => by simp at h) a m c news (by rw [hnl, hsize, Nat.mul_one]) hcell (by omega) (by omega) (by rw [hby]; exact growslice_fits (by omega) (by omega))
  have hge := grownCap_ge w (0 + m) 0 37
  have hcm2 : grownCap w (0 + m) 0 37 ≤ maxLen := grownCap_le_maxLen w (0 + m) 0 37 (by simp only [maxLen]; omega)
  refine ⟨_, _, hr, ⟨news, ⟨by rw [hnl, hm, Nat.mul_one], .inr ⟨w.heap.size, _, _, by rw [Nat.zero_add, hm], hbw, heap_alloc_new w.drew _, by omega, hcm2, ?_, ?_⟩⟩, hn⟩, ?_⟩
  ·have hz1 : (Value.slice none 0 0).cells.size = 1 := rfl
   simp only [Array.size_append, List.size_toArray, size_zeroCells, hz1, hnl, List.length_nil]
   omega
  ·simp only [Array.toList_append, List.nil_append]
   rw [hm, Nat.mul_one, ← hnl]
   exact List.take_left
  ·exact ⟨rfl, rfl, rfl, by simp, fun k hk => heap_alloc_old w.drew _ (show k < w.drew.heap.size from hk)⟩
theorem Rws.appC {w0 w : World} {base g : Nat} {ms : List (List Int)} (hk : w.heap[g]? = some (.cells #[] 37 (0, 0))) (hbg : base ≤ g) (hbw : base ≤ w.heap.size) (A : Option Addr) (c : Nat) (h0 : Kd.C (Kd.slice 3 (Kd.int .i64)) w0 A ms.length ms) (hb : Below w0.heap.size w0 w) (hl : ms.length ≤ 4096) :
  ∃ v' w', (∀ ty, (Builtin.append_ #[22, 22] ty #[.slice (some ⟨g, 0, none⟩) 0 0, .slice A ms.length c]).run Try.prog w = .ok v' w') ∧ Rws w0 w' base v' ms ∧ Below w.heap.size w w' := by
 obtain ⟨xs, hcs, hcell⟩ := cells_of_C h0
 cases A with
 | none =>
  have : ms = [] := by
   rcases Nat.eq_zero_or_pos ms.length with q | q
   ·exact List.eq_nil_of_length_eq_zero q
   ·obtain ⟨ad, e, _⟩ := hcell q
    cases e
  subst this
  refine ⟨.slice (some ⟨g, 0, none⟩) 0 0, w, fun ty => ?_, Rws.lit hk hbg, Below.refl _ _⟩
  obtain ⟨i0, hi, hzz⟩ := Option.map_eq_some_iff.1 info37
  simp only [Prod.mk.injEq] at hzz
  have hu := run_underlying Try.underlying22
  simp [Builtin.append_, hu, sizeOf, typeInfo, hi, hzz.2.1, Builtin.lenOf, Builtin.firstCells, storeCells]
 | some ad =>
  exact lit_app hk hbg hbw ad ms.length c xs hcs rfl (fun j u hu => by
   have hp : 0 < ms.length := by
    rw [← hcs.1]
    rcases Nat.eq_zero_or_pos xs.length with q | q
    ·rw [List.getElem?_eq_none (by omega)] at hu; cases hu
    ·exact q
   obtain ⟨ad2, e, hc2⟩ := hcell hp
   cases e
   have := hc2 j u hu
   exact (hb.cell (World.block_lt_of_cell? w0 _ this)).trans this) hl
def VP.rws (w0 : World) (base : Nat) (ls : List (List Int)) : VP := ⟨fun _ W v => Rws w0 W base v ls, fun _ _ _ _ _ hb _ _ h => h.below hb⟩
theorem heap_keep {w w1 : World} {g : Nat} {o : Obj} (hk : w.heap[g]? = some o) (hb : Below w.heap.size w w1) : w1.heap[g]? = some o := by
 have hlt : g < w.heap.size := by
  rcases Nat.lt_or_ge g w.heap.size with q | q
  ·exact q
  ·rw [Array.getElem?_eq_none q] at hk; cases hk
 rw [hb.block g hlt]; exact hk
def VP.lit0 (base : Nat) : VP := ⟨fun _ W v => ∃ g, v = .slice (some ⟨g, 0, none⟩) 0 0 ∧ base ≤ g ∧ W.heap[g]? = some (.cells #[] 37 (0, 0)), fun _ _ _ _ _ hb _ _ ⟨g, hv, hg, hk⟩ => ⟨g, hv, hg, heap_keep hk hb⟩⟩
section
variable {ops : Array Oper} {Q : Exit → Act → World → Prop} {o : Oper} {b : Act} {W : World} {K : Act → World → Prop} {s s1 s2 s3 : Tmp}
theorem x_addi {x y z : Int} {p q : Operand} (ho : o.op = .binOp .add 3 p q 3) (h1 : b.eval p = .int .i64 x) (h2 : b.eval q = .int .i64 y) (hz : IntKind.i64.wrap (x + y) = z) : (execOp b.eval o).run Try.prog W = .ok (.value (.int .i64 z)) W := by
 have hu3 := Try.underlying3
 subst hz
 unfold execOp
 rw [ho]
 simp only [h1, h2]
 go_simp
theorem x_lit22 (ho : o.op = .buildSlice 22 0 #[]) : (execOp b.eval o).run Try.prog W = .ok (.value (.slice (some ⟨W.heap.size, 0, none⟩) 0 0)) (W.alloc (.cells #[] 37)) := by
 have hu22 := Try.underlying22
 unfold execOp
 rw [ho]
 go_simp
theorem x_app22 {v1 v2 v' : Value} {W' : World} (ho : o.op = .call { callee := .builtin .append, args := #[.tmp s, .tmp s2], argTypes := #[22, 22] }) (h1 : b.eval (.tmp s) = v1) (h2 : b.eval (.tmp s2) = v2) (hr : ∀ ty, (Builtin.append_ #[22, 22] ty #[v1, v2]).run Try.prog W = .ok v' W') : (execOp b.eval o).run Try.prog W = .ok (.value v') W' := by
 unfold execOp
 simp only [ho, resolve, invoke, builtin, Sem.run_bind, Sem.run_pure, Result.andThen_ok, List.map_toArray, List.map_cons, List.map_nil, h1, h2, hr]
end
end Go.Proofs.Ytelfahcjeldliaa.PFnExactCheckProof
end
