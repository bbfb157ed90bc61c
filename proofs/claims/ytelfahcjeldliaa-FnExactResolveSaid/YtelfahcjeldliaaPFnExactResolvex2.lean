/- WRITTEN BY A PROGRAM OF THIS SESSION (wip/xprint) OVER THE KIT's PRINT, FOR THIS CLAIM: for Go functions that the law reaches, one Lean function each and the proof that Go's call comes to its answer. No conditions but those that each theorem names. -/
import Derived.Test.YtelfahcjeldliaaPFnExactResolvex0
import Derived.Test.YtelfahcjeldliaaPFnExactResolvex1
namespace Go.Proofs.Ytelfahcjeldliaa.PFnExactResolve
open Go.RowKit Go.Proofs.YtelfahcjeldliaaW.PrintWords Go.Proofs.YtelfahcjeldliaaW.PrintLast Go.Proofs.YtelfahcjeldliaaW.PrintMore
attribute [local go_sem] max2_int min2_int max_two min_two max_three min_three max_four min_four   -- for this text's walks alone
set_option linter.unusedVariables false
set_option linter.unusedSimpArgs false

/-! ### spec_l01Sorted: function 82 -/
def so6_T : Bool × List (List Nat × List Nat) := (true, [([], []), ([], []), ([1], [1]), ([0, 2], [0, 2]), ([3], [3]), ([4], [4]), ([4], [4]), ([5, 6, 4], [4, 5, 6]), ([7, 4], [4, 7]), ([4], [4]), ([4], [4]), ([9, 10, 4], [4, 9, 10]), ([11, 4], [4, 11]), ([8, 12, 4, 4], [4, 8, 12]), ([4, 13], [4, 13])])
def so6_B : List Nat := [0, 0, 2, 7, 15, 31, 31, 127, 255, 31, 31, 1567, 3615, 8191, 16383]
theorem so6_tab : rtab .any (opsOf Try.f82 6) = so6_T := by kernel_rfl
theorem so6_bits : waitsOk so6_T.2 so6_B = true := by kernel_rfl
def so8_T : Bool × List (List Nat × List Nat) := (true, [([], []), ([], []), ([1], [1]), ([0, 2], [0, 2]), ([3], [3]), ([4], [4]), ([4], [4]), ([5, 6, 4], [4, 5, 6]), ([7, 4], [4, 7]), ([4], [4]), ([4], [4]), ([9, 10, 4], [4, 9, 10]), ([11, 4], [4, 11]), ([8, 12, 4], [4, 8, 12]), ([4, 13], [4, 13])])
def so8_B : List Nat := [0, 0, 2, 7, 15, 31, 31, 127, 255, 31, 31, 1567, 3615, 8191, 16383]
theorem so8_tab : rtab .any (opsOf Try.f82 8) = so8_T := by kernel_rfl
theorem so8_bits : waitsOk so8_T.2 so8_B = true := by kernel_rfl
def so9_T : Bool × List (List Nat × List Nat) := (true, [([], []), ([], []), ([], []), ([1, 2], [1, 2]), ([0, 3], [0, 3]), ([], []), ([], []), ([5, 6], [5, 6]), ([7], [7]), ([8], [8]), ([4, 9, 4], [4, 9]), ([], []), ([], []), ([11, 12], [11, 12]), ([10, 13, 10], [10, 13]), ([14, 14, 0, 1, 2, 3, 4, 5, 6, 7, 8, 9, 10, 11, 12, 13, 14], [1, 11, 14])])
def so9_B : List Nat := [0, 0, 0, 6, 15, 0, 0, 96, 224, 480, 1023, 0, 0, 6144, 16383, 32767]
theorem so9_tab : rtab .any (opsOf Try.f82 9) = so9_T := by kernel_rfl
theorem so9_bits : waitsOk so9_T.2 so9_B = true := by kernel_rfl
def so13_T : Bool × List (List Nat × List Nat) := (true, [([], []), ([], []), ([1], [1]), ([0, 2], [0, 2]), ([3], [3]), ([], []), ([], []), ([5, 6], [5, 6]), ([7], [7]), ([8], [8]), ([4, 9], [4, 9])])
def so13_B : List Nat := [0, 0, 2, 7, 15, 0, 0, 96, 224, 480, 1023]
theorem so13_tab : rtab .any (opsOf Try.f82 13) = so13_T := by kernel_rfl
theorem so13_bits : waitsOk so13_T.2 so13_B = true := by kernel_rfl
theorem R_ctake {e base c jj : Nat} {ok : Nat → Prop} {A : Option Addr} {W : World} {ys : List Int} (h : Kd.R (Kd.int .i64) e W base ok (.slice A ys.length c) ys) (hj : jj ≤ ys.length) : Kd.C (Kd.int .i64) W A jj (ys.take jj) := by
  have q := Kd.C_take (Kd.R_reads' h).2.2 hj
  rwa [List.length_take, Nat.min_eq_left hj] at q
theorem R_cdrop {e base c jj : Nat} {ok : Nat → Prop} {ad : Addr} {W : World} {ys : List Int} (h : Kd.R (Kd.int .i64) e W base ok (.slice (some ad) ys.length c) ys) (hj : jj ≤ ys.length) (hc : ys.length ≤ c) : Kd.C (Kd.int .i64) W (if c = jj then some ad else some (ad.add jj)) (ys.length - jj) (ys.drop jj) := by
  have q := Kd.C_drop (Kd.R_reads' h).2.2 hj hc
  rw [List.length_drop, show jj * (Kd.int .i64).sz = jj from Nat.mul_one jj] at q
  exact q
theorem R_cap {e base c n : Nat} {ok : Nat → Prop} {A : Option Addr} {W : World} {ys : List Int} (h : Kd.R (Kd.int .i64) e W base ok (.slice A n c) ys) : n ≤ c := (Kd.R_reads' h).2.1
theorem abs_is {a : Int} (ha : inR a) : spec_l01Abs.f a = some (if a < 0 then -a else a) := by
  obtain ⟨h1, h2⟩ := ha
  have e : wrap64 (-a) = -a := IntWalk.wrap64_in _ ⟨by omega, by omega⟩
  unfold spec_l01Abs.f
  rw [e]
  unfold mx
  congr 1
  split <;> split <;> omega
theorem before_is {a b : Int} (ha : inR a) (hb : inR b) : spec_l01Before.f a b = some (decide (rk a < rk b)) := by
  unfold spec_l01Before.f
  simp only [abs_is ha, abs_is hb, Option.bind_some]
  unfold rk
  by_cases h1 : a < 0 <;> by_cases h2 : b < 0 <;> simp only [h1, h2, if_true, if_false] <;> split <;> (congr 1; apply decide_eq_decide.2; omega)
def spec_l01Sorted.f (l : List Int) : Option (List Int × Bool) := if l.length ≤ 4096 ∧ ∀ x ∈ l, inR x then some (insAll l [], !(oppB (insAll l []))) else none
set_option maxHeartbeats 8000000 in
set_option maxRecDepth 100000 in
theorem spec_l01Sorted.calls (A0 : Option Addr) (c0 : Nat) (l0 : List Int) (r1 : List Int) (r2 : Bool) (w : World) (hr0 : Kd.C (Kd.int .i64) w A0 l0.length l0) (hc0 : l0.length ≤ c0) (h : spec_l01Sorted.f l0 = some (r1, r2)) :
    Calls Try.prog 82 #[.slice A0 l0.length c0] w fun e w' => ∃ v0_ : Value, e = .returned (.tuple #[v0_, .bool r2]) ∧ Kd.R (Kd.int .i64) 3 w' w.heap.size (fun _ => True) v0_ r1 ∧ Below w.heap.size w w' := by
  unfold spec_l01Sorted.f at h
  by_cases hg : l0.length ≤ 4096 ∧ ∀ x ∈ l0, inR x
  rotate_left
  · rw [if_neg hg] at h
    cases h
  rw [if_pos hg] at h
  obtain ⟨hlen, hin⟩ := hg
  obtain ⟨rfl, h2⟩ := Prod.mk.inj (Option.some.inj h)
  clear h
  obtain ⟨res, hres⟩ : ∃ res, insAll l0 [] = res := ⟨_, rfl⟩
  rw [hres] at h2 ⊢
  have HRES : Aside0 (insAll (l0.drop 0) [] = res) := ⟨hres⟩
  have H2 := Aside0.mk h2
  have HA := Aside0.mk hr0
  have HIN := Aside0.mk hin
  clear hres h2 hr0 hin
  go_enter Try.func82, Try.ntmps82
  go_upto_region 2 with (first | ((with_reducible refine gate_dst (N := 8) rfl ?_); refine Kd.R_lit (Kd.int .i64) w.heap.size 3 rfl (N := 8) rfl (xs := ([] : List Int)) (inner := []) (ok := fun _ => True) (okp := fun _ => False) (by go_simp; done) (Reps.none _ _) (fun _ hk => hk.elim) trivial (Below.refl _ _) (Nat.le_refl _) (by simp) ?_; intro v4 wA hr hb_ hg_ hat_; have HO := Aside0.mk hr; have HB := Aside0.mk hb_; have HAT := Aside0.mk hat_; clear hr hb_ hg_ hat_))
  obtain ⟨A4, c4, e4⟩ := Kd.R_slice HO.out
  subst e4
  obtain ⟨ad4, rfl⟩ : ∃ ad4, A4 = some ad4 := by
    cases A4 with
    | none => obtain ⟨b_, h_, -⟩ := HAT.out; cases h_
    | some a_ => exact ⟨a_, rfl⟩
  clear HAT
  go_wp2
  go_loopg [4, 5] l0.length (fun gg v4 v5 wr => ∃ (kk : Nat) (ad : Addr) (c : Nat) (ys : List Int), v5 = .int .i64 kk ∧ kk ≤ l0.length ∧ l0.length - kk ≤ gg ∧ v4 = .slice (some ad) ys.length c ∧ ys.length ≤ kk ∧ Aside0 (∀ x ∈ ys, inR x) ∧ Aside0 (insAll (l0.drop kk) ys = res) ∧ Aside0 (Kd.R (Kd.int .i64) 3 wr w.heap.size (fun _ => True) (.slice (some ad) ys.length c) ys) ∧ Aside0 (Below w.heap.size w wr))
  case atStart => exact ⟨0, ad4, c4, [], rfl, Nat.zero_le _, by omega, rfl, Nat.le_refl _, ⟨fun _ h_ => by cases h_⟩, HRES, HO, HB⟩
  case round =>
    clear HRES HO HB
    obtain ⟨kk, ad, c, ys, rfl, hkk, hg, rfl, hyl, HYI, HRES, HO, HB⟩ := hrel
    by_cases hlt : kk < l0.length
    · have hltz : (kk : Int) < (l0.length : Int) := by omega
      have hkc0 : (0 : Int) ≤ (kk : Int) := Int.natCast_nonneg _
      have ewk : IntKind.i64.wrap ((kk : Int) + 1) = ((kk + 1 : Nat) : Int) := IntWalk.i64_in _ ⟨by omega, by omega⟩
      obtain ⟨adc, ea, hx0⟩ := Kd.at_int HA.out (kk : Int) hkc0 hltz
      subst ea
      rw [Int.toNat_natCast] at hx0
      have hrd : rd l0 (kk : Int) = l0[kk] := by unfold rd; simp [List.getD, hlt]
      have hRES := HRES.out
      rw [List.drop_eq_getElem_cons hlt, insAll, ← hrd] at hRES
      have hxi : inR l0[kk] := HIN.out _ (List.getElem_mem hlt)
      rw [← hrd] at hxi
      clear HRES hrd
      generalize rd l0 (kk : Int) = x at hx0 hRES hxi
      have HXI := Aside0.mk hxi
      have HRES := Aside0.mk hRES
      clear hxi hRES
      have HJ0 : Aside0 (0 + cntB x (ys.drop 0) = cntB x ys) := ⟨Nat.zero_add _⟩
      go_wp2
      go_loopg [6] ys.length (fun gg2 v6 wr2 => ∃ jj : Nat, v6 = .int .i64 jj ∧ jj ≤ ys.length ∧ ys.length - jj ≤ gg2 ∧ Aside0 (jj + cntB x (ys.drop jj) = cntB x ys) ∧ Aside0 (Kd.R (Kd.int .i64) 3 wr2 w.heap.size (fun _ => True) (.slice (some ad) ys.length c) ys) ∧ Aside0 (Below w.heap.size w wr2))
      case atStart => exact ⟨0, rfl, Nat.zero_le _, by omega, HJ0, HO, HB⟩
      case round =>
        clear HJ0 HO HB
        obtain ⟨jj, rfl, hjj, hg2, HJ, HO, HB⟩ := hrel
        by_cases hjl : jj < ys.length
        · have hjz : (jj : Int) < (ys.length : Int) := by omega
          have hj0 : (0 : Int) ≤ (jj : Int) := Int.natCast_nonneg _
          have ewj : IntKind.i64.wrap ((jj : Int) + 1) = ((jj + 1 : Nat) : Int) := IntWalk.i64_in _ ⟨by omega, by omega⟩
          have hCy := (Kd.R_reads' HO.out).2.2
          obtain ⟨ad_, ea_, hy⟩ := Kd.at_int hCy (jj : Int) hj0 hjz
          obtain rfl := Option.some.inj ea_
          clear ea_ hCy
          rw [Int.toNat_natCast] at hy
          have hrdy : rd ys (jj : Int) = ys[jj] := by unfold rd; simp [List.getD, hjl]
          have hyi : inR ys[jj] := HYI.out _ (List.getElem_mem hjl)
          have hbf := before_is hyi HXI.out
          have hst := @cntB_step x ys jj hjl
          have hsp := @cntB_stop x ys jj hjl
          rw [← hrdy] at hbf hst hsp
          clear hrdy hyi
          generalize rd ys (jj : Int) = y at hy hbf hst hsp
          have hx := (HB.out.cell (World.block_lt_of_cell? w _ hx0)).trans hx0
          obtain ⟨b, hb6⟩ : ∃ b, decide (rk y < rk x) = b := ⟨_, rfl⟩
          rw [hb6] at hbf
          replace hbf := Aside0.mk hbf
          have HX0 := Aside0.mk hx0
          clear hx0
          go_upto_region 6 with fail
          have hbdc : ∀ p v, wr.cell? p = some v → wr.drew.cell? p = some v := fun p v h => h
          have hbd := below_drew (Below.refl wr.heap.size wr)
          replace HO := Aside0.mk (Kd.R_below HO.out hbd)
          replace HB := Aside0.mk (HB.out.trans (hbd.mono HB.out.size))
          clear hbd
          replace hy := hbdc _ _ hy
          replace hx := hbdc _ _ hx
          clear hbdc
          generalize hw9 : wr.drew = w20 at *
          refine start_ (n := 15) (S := fun w' => w'.cell? (ad.add jj) = some (.int .i64 y) ∧ w'.cell? (adc.add kk) = some (.int .i64 x)) (ds := []) #[false, false, false, false, false, false, false, false, false, false, false, false, false, false, false] (by kernel_rfl) rfl rfl (by rw [hw9]; exact ⟨hy, hx⟩) (fun hHeld => ?_)
          refine with_tabW so6_tab so6_bits (fun HT_ HW_ => ?_)
          rw [hw9] at hHeld ⊢
          clear hw9
          refine pure_ (i := 0) (N := some 15) (v := ?_) (a' := ?_) #[true, false, false, false, false, false, false, false, false, false, false, false, false, false, false] rfl rfl (any_of HT_.out (by kernel_rfl)) (fun _ _ _ h => h) (Or.inl ⟨by rfl, ?_⟩) ?_ ?_
          rotate_left
          · intro w'
            go_simp
            with_reducible rfl
          rotate_left
          · simp only [Act.put, List.setIfInBounds_toArray, List.set_cons_zero, List.set_cons_succ, i64_w, i32_w]
            rfl
          refine pure_ (i := 1) (N := some 16) (v := ?_) (a' := ?_) #[true, true, false, false, false, false, false, false, false, false, false, false, false, false, false] rfl rfl (any_of HT_.out (by kernel_rfl)) (fun _ _ _ h => h) (Or.inl ⟨by rfl, ?_⟩) ?_ ?_
          rotate_left
          · intro w'
            go_simp
            with_reducible rfl
          rotate_left
          · simp only [Act.put, List.setIfInBounds_toArray, List.set_cons_zero, List.set_cons_succ, i64_w, i32_w]
            rfl
          refine pure_ (i := 2) (N := some 17) (v := ?_) (a' := ?_) #[true, true, true, false, false, false, false, false, false, false, false, false, false, false, false] rfl rfl (any_of HT_.out (by kernel_rfl)) (fun _ _ _ h => h) (Or.inl ⟨by rfl, ?_⟩) ?_ ?_
          rotate_left
          · intro w'
            go_simp
            with_reducible rfl
          rotate_left
          · simp only [Act.put, List.setIfInBounds_toArray, List.set_cons_zero, List.set_cons_succ, i64_w, i32_w]
            rfl
          refine pure_ (i := 3) (N := some 18) (v := ?_) (a' := ?_) #[true, true, true, true, false, false, false, false, false, false, false, false, false, false, false] rfl rfl (any_of HT_.out (by kernel_rfl)) (fun _ _ _ h => h) (Or.inl ⟨by rfl, ?_⟩) ?_ ?_
          rotate_left
          · intro w'
            go_simp
            with_reducible rfl
          rotate_left
          · simp only [Act.put, List.setIfInBounds_toArray, List.set_cons_zero, List.set_cons_succ, i64_w, i32_w]
            rfl
          refine pure_ (i := 4) (N := some 19) (v := ?_) (a' := ?_) #[true, true, true, true, true, false, false, false, false, false, false, false, false, false, false] rfl rfl (any_of HT_.out (by kernel_rfl)) (fun _ _ _ h => h) (Or.inl ⟨by rfl, ?_⟩) ?_ ?_
          rotate_left
          · intro w'
            go_simp
            with_reducible rfl
          rotate_left
          · simp only [Act.put, List.setIfInBounds_toArray, List.set_cons_zero, List.set_cons_succ, i64_w, i32_w]
            rfl
          refine pure_ (i := 5) (N := some 20) (v := ?_) (a' := ?_) #[true, true, true, true, true, true, false, false, false, false, false, false, false, false, false] rfl rfl (any_of HT_.out (by kernel_rfl)) (fun _ _ _ h => h) (Or.inl ⟨by rfl, ?_⟩) ?_ ?_
          rotate_left
          · intro w'
            go_simp
            with_reducible rfl
          rotate_left
          · simp only [Act.put, List.setIfInBounds_toArray, List.set_cons_zero, List.set_cons_succ, i64_w, i32_w]
            rfl
          refine pure_ (i := 6) (N := some 21) (v := ?_) (a' := ?_) #[true, true, true, true, true, true, true, false, false, false, false, false, false, false, false] rfl rfl (any_of HT_.out (by kernel_rfl)) (fun _ _ _ h => h) (Or.inl ⟨by rfl, ?_⟩) ?_ ?_
          rotate_left
          · intro w'
            go_simp
            with_reducible rfl
          rotate_left
          · simp only [Act.put, List.setIfInBounds_toArray, List.set_cons_zero, List.set_cons_succ, i64_w, i32_w]
            rfl
          refine pure_ (i := 7) (N := some 22) (v := ?_) (a' := ?_) #[true, true, true, true, true, true, true, true, false, false, false, false, false, false, false] rfl rfl (any_of HT_.out (by kernel_rfl)) (fun _ _ _ h => h) (Or.inl ⟨by rfl, ?_⟩) ?_ ?_
          rotate_left
          · intro w'
            go_simp
            with_reducible rfl
          rotate_left
          · simp only [Act.put, List.setIfInBounds_toArray, List.set_cons_zero, List.set_cons_succ, i64_w, i32_w]
            rfl
          refine pure_ (i := 9) (N := some 24) (v := ?_) (a' := ?_) #[true, true, true, true, true, true, true, true, false, true, false, false, false, false, false] rfl rfl (any_of HT_.out (by kernel_rfl)) (fun _ _ _ h => h) (Or.inl ⟨by rfl, ?_⟩) ?_ ?_
          rotate_left
          · intro w'
            go_simp
            with_reducible rfl
          rotate_left
          · simp only [Act.put, List.setIfInBounds_toArray, List.set_cons_zero, List.set_cons_succ, i64_w, i32_w]
            rfl
          refine pure_ (i := 10) (N := some 25) (v := ?_) (a' := ?_) #[true, true, true, true, true, true, true, true, false, true, true, false, false, false, false] rfl rfl (any_of HT_.out (by kernel_rfl)) (fun _ _ _ h => h) (Or.inl ⟨by rfl, ?_⟩) ?_ ?_
          rotate_left
          · intro w'
            go_simp
            with_reducible rfl
          rotate_left
          · simp only [Act.put, List.setIfInBounds_toArray, List.set_cons_zero, List.set_cons_succ, i64_w, i32_w]
            rfl
          refine pure_ (i := 11) (N := some 26) (v := ?_) (a' := ?_) #[true, true, true, true, true, true, true, true, false, true, true, true, false, false, false] rfl rfl (any_of HT_.out (by kernel_rfl)) (fun _ _ _ h => h) (Or.inl ⟨by rfl, ?_⟩) ?_ ?_
          rotate_left
          · intro w'
            go_simp
            with_reducible rfl
          rotate_left
          · simp only [Act.put, List.setIfInBounds_toArray, List.set_cons_zero, List.set_cons_succ, i64_w, i32_w]
            rfl
          refine take_ (i := 8) (N := some 23) (v := ?_) (a' := ?_) #[true, true, true, true, true, true, true, true, true, true, true, true, false, false, false] rfl rfl (take_ofW HT_.out HW_.out (by kernel_rfl)) (fun _ _ _ h => h) (Or.inl ⟨by rfl, ?_⟩) hHeld ?_ ?_
          rotate_left
          · rintro w' ⟨s0, s1⟩
            go_simp
            with_reducible rfl
          rotate_left
          · simp only [Act.put, List.setIfInBounds_toArray, List.set_cons_zero, List.set_cons_succ, i64_w, i32_w]
            rfl
          refine take_ (i := 12) (N := some 27) (v := ?_) (a' := ?_) #[true, true, true, true, true, true, true, true, true, true, true, true, true, false, false] rfl rfl (take_ofW HT_.out HW_.out (by kernel_rfl)) (fun _ _ _ h => h) (Or.inl ⟨by rfl, ?_⟩) hHeld ?_ ?_
          rotate_left
          · rintro w' ⟨s0, s1⟩
            go_simp
            with_reducible rfl
          rotate_left
          · simp only [Act.put, List.setIfInBounds_toArray, List.set_cons_zero, List.set_cons_succ, i64_w, i32_w]
            rfl
          refine one_ (i := 13) (N := some 28) #[true, true, true, true, true, true, true, true, true, true, true, true, true, true, false] rfl rfl (one_of HT_.out (by kernel_rfl)) (by decide) (fun K hK => ?_)
          refine call_ 111 #[.int .i64 y, .int .i64 x] (by rfl) rfl ?q6_hrun13 ?q6_h13
          case q6_hrun13 =>
            have he := enters_of Try.func111 (by kernel_rfl) rfl
            unfold execOp
            simp [resolve, Deferred.ofValue, invoke, Act.eval, he]
          refine (spec_l01Before.calls y x _ _ hbf.out).mono ?_
          rintro e wv ⟨rfl, hb⟩
          refine ⟨_, rfl, ?_⟩
          replace HO := Aside0.mk (Kd.R_below HO.out hb)
          replace HB := Aside0.mk (HB.out.trans (hb.mono HB.out.size))
          have hy2 := (hb.cell (World.block_lt_of_cell? _ _ hHeld.1)).trans hHeld.1
          have hx2 := (hb.cell (World.block_lt_of_cell? _ _ hHeld.2)).trans hHeld.2
          clear hb hHeld
          refine hK.out _ _ ⟨hy2, hx2⟩ (fun hHeld => ?_)
          clear hy2 hx2
          clear hK K
          refine norm_ (a' := ?_) ?_ ?_
          rotate_left
          · show Act.put _ (some 28) _ = _
            simp only [Act.put, List.setIfInBounds_toArray, List.set_cons_zero, List.set_cons_succ, i64_w, i32_w]
            rfl
          refine pure_ (i := 14) (N := some 29) (v := ?_) (a' := ?_) #[true, true, true, true, true, true, true, true, true, true, true, true, true, true, true] rfl rfl (any_of HT_.out (by kernel_rfl)) (fun _ _ _ h => h) (Or.inl ⟨by rfl, ?_⟩) ?_ ?_
          rotate_left
          · intro w'
            go_simp
            with_reducible rfl
          rotate_left
          · simp only [Act.put, List.setIfInBounds_toArray, List.set_cons_zero, List.set_cons_succ, i64_w, i32_w]
            rfl
          refine done_ (done_of HT_.out (by kernel_rfl)) ?_
          clear hHeld HT_ HW_
          have hx0 := HX0.out
          clear HX0 hbf
          cases b with
          | true =>
            have hJ := HJ.out
            rw [hst (of_decide_eq_true hb6)] at hJ
            have HJ2 := Aside0.mk hJ
            clear hJ HJ hst hsp hb6
            go_wp2
            go_roundg (ys.length - (jj + 1))
            case measure => omega
            case rel => exact ⟨jj + 1, by go_num, by omega, by omega, HJ2, HO, HB⟩
          | false =>
            have hJ := HJ.out
            rw [hsp (of_decide_eq_false hb6), Nat.add_zero] at hJ
            clear HJ hst hsp hb6
            have HX0 := Aside0.mk hx0
            have HJ := Aside0.mk hJ
            clear hx0 hJ
            go_upto_region 8 with fail
            have hx0 := HX0.out
            clear HX0
            obtain ⟨wr3, hwr3⟩ : ∃ z : World, z = wv := ⟨_, rfl⟩
            subst hwr3
            have hCy := (Kd.R_reads' HO.out).2.2
            obtain ⟨ad_, ea_, hy⟩ := Kd.at_int hCy (jj : Int) hj0 hjz
            obtain rfl := Option.some.inj ea_
            clear ea_ hCy
            rw [Int.toNat_natCast] at hy
            have hrdy : rd ys (jj : Int) = ys[jj] := by unfold rd; simp [List.getD, hjl]
            have hg8 : ys[cntB x ys]? = some (rd ys (jj : Int)) := by rw [← HJ.out, hrdy]; exact List.getElem?_eq_getElem hjl
            clear hrdy
            generalize rd ys (jj : Int) = y2 at hy hg8
            have hx := (HB.out.cell (World.block_lt_of_cell? w _ hx0)).trans hx0
            have HX0 := Aside0.mk hx0
            clear hx0
            have hbdc : ∀ p v, wr3.cell? p = some v → wr3.drew.cell? p = some v := fun p v h => h
            have hbd := below_drew (Below.refl wr3.heap.size wr3)
            replace HO := Aside0.mk (Kd.R_below HO.out hbd)
            replace HB := Aside0.mk (HB.out.trans (hbd.mono HB.out.size))
            clear hbd
            replace hy := hbdc _ _ hy
            replace hx := hbdc _ _ hx
            clear hbdc
            generalize hw9 : wr3.drew = w30 at *
            refine start_ (n := 15) (S := fun w' => w'.cell? (ad.add jj) = some (.int .i64 y2) ∧ w'.cell? (adc.add kk) = some (.int .i64 x)) (ds := []) #[false, false, false, false, false, false, false, false, false, false, false, false, false, false, false] (by kernel_rfl) rfl rfl (by rw [hw9]; exact ⟨hy, hx⟩) (fun hHeld => ?_)
            refine with_tabW so8_tab so8_bits (fun HT_ HW_ => ?_)
            rw [hw9] at hHeld ⊢
            clear hw9
            refine pure_ (i := 0) (N := some 32) (v := ?_) (a' := ?_) #[true, false, false, false, false, false, false, false, false, false, false, false, false, false, false] rfl rfl (any_of HT_.out (by kernel_rfl)) (fun _ _ _ h => h) (Or.inl ⟨by rfl, ?_⟩) ?_ ?_
            rotate_left
            · intro w'
              go_simp
              with_reducible rfl
            rotate_left
            · simp only [Act.put, List.setIfInBounds_toArray, List.set_cons_zero, List.set_cons_succ, i64_w, i32_w]
              rfl
            refine pure_ (i := 1) (N := some 33) (v := ?_) (a' := ?_) #[true, true, false, false, false, false, false, false, false, false, false, false, false, false, false] rfl rfl (any_of HT_.out (by kernel_rfl)) (fun _ _ _ h => h) (Or.inl ⟨by rfl, ?_⟩) ?_ ?_
            rotate_left
            · intro w'
              go_simp
              with_reducible rfl
            rotate_left
            · simp only [Act.put, List.setIfInBounds_toArray, List.set_cons_zero, List.set_cons_succ, i64_w, i32_w]
              rfl
            refine pure_ (i := 2) (N := some 34) (v := ?_) (a' := ?_) #[true, true, true, false, false, false, false, false, false, false, false, false, false, false, false] rfl rfl (any_of HT_.out (by kernel_rfl)) (fun _ _ _ h => h) (Or.inl ⟨by rfl, ?_⟩) ?_ ?_
            rotate_left
            · intro w'
              go_simp
              with_reducible rfl
            rotate_left
            · simp only [Act.put, List.setIfInBounds_toArray, List.set_cons_zero, List.set_cons_succ, i64_w, i32_w]
              rfl
            refine pure_ (i := 3) (N := some 35) (v := ?_) (a' := ?_) #[true, true, true, true, false, false, false, false, false, false, false, false, false, false, false] rfl rfl (any_of HT_.out (by kernel_rfl)) (fun _ _ _ h => h) (Or.inl ⟨by rfl, ?_⟩) ?_ ?_
            rotate_left
            · intro w'
              go_simp
              with_reducible rfl
            rotate_left
            · simp only [Act.put, List.setIfInBounds_toArray, List.set_cons_zero, List.set_cons_succ, i64_w, i32_w]
              rfl
            refine pure_ (i := 4) (N := some 36) (v := ?_) (a' := ?_) #[true, true, true, true, true, false, false, false, false, false, false, false, false, false, false] rfl rfl (any_of HT_.out (by kernel_rfl)) (fun _ _ _ h => h) (Or.inl ⟨by rfl, ?_⟩) ?_ ?_
            rotate_left
            · intro w'
              go_simp
              with_reducible rfl
            rotate_left
            · simp only [Act.put, List.setIfInBounds_toArray, List.set_cons_zero, List.set_cons_succ, i64_w, i32_w]
              rfl
            refine pure_ (i := 5) (N := some 37) (v := ?_) (a' := ?_) #[true, true, true, true, true, true, false, false, false, false, false, false, false, false, false] rfl rfl (any_of HT_.out (by kernel_rfl)) (fun _ _ _ h => h) (Or.inl ⟨by rfl, ?_⟩) ?_ ?_
            rotate_left
            · intro w'
              go_simp
              with_reducible rfl
            rotate_left
            · simp only [Act.put, List.setIfInBounds_toArray, List.set_cons_zero, List.set_cons_succ, i64_w, i32_w]
              rfl
            refine pure_ (i := 6) (N := some 38) (v := ?_) (a' := ?_) #[true, true, true, true, true, true, true, false, false, false, false, false, false, false, false] rfl rfl (any_of HT_.out (by kernel_rfl)) (fun _ _ _ h => h) (Or.inl ⟨by rfl, ?_⟩) ?_ ?_
            rotate_left
            · intro w'
              go_simp
              with_reducible rfl
            rotate_left
            · simp only [Act.put, List.setIfInBounds_toArray, List.set_cons_zero, List.set_cons_succ, i64_w, i32_w]
              rfl
            refine pure_ (i := 7) (N := some 39) (v := ?_) (a' := ?_) #[true, true, true, true, true, true, true, true, false, false, false, false, false, false, false] rfl rfl (any_of HT_.out (by kernel_rfl)) (fun _ _ _ h => h) (Or.inl ⟨by rfl, ?_⟩) ?_ ?_
            rotate_left
            · intro w'
              go_simp
              with_reducible rfl
            rotate_left
            · simp only [Act.put, List.setIfInBounds_toArray, List.set_cons_zero, List.set_cons_succ, i64_w, i32_w]
              rfl
            refine pure_ (i := 9) (N := some 41) (v := ?_) (a' := ?_) #[true, true, true, true, true, true, true, true, false, true, false, false, false, false, false] rfl rfl (any_of HT_.out (by kernel_rfl)) (fun _ _ _ h => h) (Or.inl ⟨by rfl, ?_⟩) ?_ ?_
            rotate_left
            · intro w'
              go_simp
              with_reducible rfl
            rotate_left
            · simp only [Act.put, List.setIfInBounds_toArray, List.set_cons_zero, List.set_cons_succ, i64_w, i32_w]
              rfl
            refine pure_ (i := 10) (N := some 42) (v := ?_) (a' := ?_) #[true, true, true, true, true, true, true, true, false, true, true, false, false, false, false] rfl rfl (any_of HT_.out (by kernel_rfl)) (fun _ _ _ h => h) (Or.inl ⟨by rfl, ?_⟩) ?_ ?_
            rotate_left
            · intro w'
              go_simp
              with_reducible rfl
            rotate_left
            · simp only [Act.put, List.setIfInBounds_toArray, List.set_cons_zero, List.set_cons_succ, i64_w, i32_w]
              rfl
            refine pure_ (i := 11) (N := some 43) (v := ?_) (a' := ?_) #[true, true, true, true, true, true, true, true, false, true, true, true, false, false, false] rfl rfl (any_of HT_.out (by kernel_rfl)) (fun _ _ _ h => h) (Or.inl ⟨by rfl, ?_⟩) ?_ ?_
            rotate_left
            · intro w'
              go_simp
              with_reducible rfl
            rotate_left
            · simp only [Act.put, List.setIfInBounds_toArray, List.set_cons_zero, List.set_cons_succ, i64_w, i32_w]
              rfl
            refine take_ (i := 8) (N := some 40) (v := ?_) (a' := ?_) #[true, true, true, true, true, true, true, true, true, true, true, true, false, false, false] rfl rfl (take_ofW HT_.out HW_.out (by kernel_rfl)) (fun _ _ _ h => h) (Or.inl ⟨by rfl, ?_⟩) hHeld ?_ ?_
            rotate_left
            · rintro w' ⟨s0, s1⟩
              go_simp
              with_reducible rfl
            rotate_left
            · simp only [Act.put, List.setIfInBounds_toArray, List.set_cons_zero, List.set_cons_succ, i64_w, i32_w]
              rfl
            refine take_ (i := 12) (N := some 44) (v := ?_) (a' := ?_) #[true, true, true, true, true, true, true, true, true, true, true, true, true, false, false] rfl rfl (take_ofW HT_.out HW_.out (by kernel_rfl)) (fun _ _ _ h => h) (Or.inl ⟨by rfl, ?_⟩) hHeld ?_ ?_
            rotate_left
            · rintro w' ⟨s0, s1⟩
              go_simp
              with_reducible rfl
            rotate_left
            · simp only [Act.put, List.setIfInBounds_toArray, List.set_cons_zero, List.set_cons_succ, i64_w, i32_w]
              rfl
            refine pure_ (i := 13) (N := some 45) (v := ?_) (a' := ?_) #[true, true, true, true, true, true, true, true, true, true, true, true, true, true, false] rfl rfl (any_of HT_.out (by kernel_rfl)) (fun _ _ _ h => h) (Or.inl ⟨by rfl, ?_⟩) ?_ ?_
            rotate_left
            · intro w'
              go_simp
              with_reducible rfl
            rotate_left
            · simp only [Act.put, List.setIfInBounds_toArray, List.set_cons_zero, List.set_cons_succ, i64_w, i32_w]
              rfl
            refine pure_ (i := 14) (N := some 46) (v := ?_) (a' := ?_) #[true, true, true, true, true, true, true, true, true, true, true, true, true, true, true] rfl rfl (any_of HT_.out (by kernel_rfl)) (fun _ _ _ h => h) (Or.inl ⟨by rfl, ?_⟩) ?_ ?_
            rotate_left
            · intro w'
              go_simp
              with_reducible rfl
            rotate_left
            · simp only [Act.put, List.setIfInBounds_toArray, List.set_cons_zero, List.set_cons_succ, i64_w, i32_w]
              rfl
            refine done_ (done_of HT_.out (by kernel_rfl)) ?_
            clear hHeld HT_ HW_
            have hx0 := HX0.out
            clear HX0
            by_cases hyx : y2 = x
            · have hyb : (y2 == x) = true := beq_iff_eq.2 hyx
              have hI : insR x ys = ys := by unfold insR; rw [if_pos (by rw [hg8, hyx])]
              have HR2 : Aside0 (insAll (l0.drop (kk + 1)) ys = res) := ⟨by rw [← HRES.out, hI]⟩
              clear HRES HJ hI hg8 hx0
              rw [hyb]
              go_wp2
              go_roundg (l0.length - (kk + 1))
              case measure => omega
              case rel => exact ⟨kk + 1, ad, c, ys, by go_num, by omega, by omega, rfl, by omega, HYI, HR2, HO, HB⟩
            · have hyb : (y2 == x) = false := beq_eq_false_iff_ne.2 hyx
              have hI : insR x ys = ys.take jj ++ [x] ++ ys.drop jj := by unfold insR; rw [if_neg (by rw [hg8]; intro h_; exact hyx (Option.some.inj h_)), HJ.out]
              clear hg8 HJ
              rw [hyb]
              have HI := Aside0.mk hI
              clear hI
              replace hjl := Nat.le_of_lt hjl
              have HX0 := Aside0.mk hx0
              clear hx0
              go_upto_region 9 with fail
              have hx0 := HX0.out
              clear HX0
              obtain ⟨wr3, hwr3⟩ : ∃ z : World, z = w30 := ⟨_, rfl⟩
              subst hwr3
              have hjc : jj ≤ c := Nat.le_trans hjl (R_cap HO.out)
              have hbd := below_drew (Below.refl wr3.heap.size wr3)
              replace HO := Aside0.mk (Kd.R_below HO.out hbd)
              replace HB := Aside0.mk (HB.out.trans (hbd.mono HB.out.size))
              clear hbd
              generalize hw9 : wr3.drew = w30 at *
              have hx30 := ((HB.out.cell (World.block_lt_of_cell? w _ hx0)).trans hx0)
              refine start_ (n := 16) (S := fun w' => w'.cell? (adc.add kk) = some (.int .i64 x)) (ds := []) #[false, false, false, false, false, false, false, false, false, false, false, false, false, false, false, false] (by kernel_rfl) rfl rfl (by rw [hw9]; exact hx30) (fun hHeld => ?_)
              refine with_tabW so9_tab so9_bits (fun HT_ HW_ => ?_)
              rw [hw9] at hHeld ⊢
              clear hw9
              have HOU := Aside0.mk (Kd.R_mono (ok' := fun k_ => k_ < w30.heap.size) (Kd.R_bound HO.out) (fun k_ hk_ => hk_.2.2.1))
              clear HO hx30
              obtain ⟨SZ, hSZ⟩ : ∃ s, w30.heap.size = s := ⟨_, rfl⟩
              rw [hSZ] at HOU
              have HSZ := Aside0.mk (Nat.le_of_eq hSZ.symm)
              clear hSZ
              refine pure_ (i := 1) (N := some 48) (v := ?_) (a' := ?_) #[false, true, false, false, false, false, false, false, false, false, false, false, false, false, false, false] rfl rfl (any_of HT_.out (by kernel_rfl)) (fun _ _ _ h => h) (Or.inl ⟨by rfl, ?_⟩) ?_ ?_
              rotate_left
              · intro w'
                go_simp
                with_reducible rfl
              rotate_left
              · simp only [Act.put, List.setIfInBounds_toArray, List.set_cons_zero, List.set_cons_succ, i64_w, i32_w]
                rfl
              refine pure_ (i := 2) (N := some 49) (v := ?_) (a' := ?_) #[false, true, true, false, false, false, false, false, false, false, false, false, false, false, false, false] rfl rfl (any_of HT_.out (by kernel_rfl)) (fun _ _ _ h => h) (Or.inl ⟨by rfl, ?_⟩) ?_ ?_
              rotate_left
              · intro w'
                go_simp
                with_reducible rfl
              rotate_left
              · simp only [Act.put, List.setIfInBounds_toArray, List.set_cons_zero, List.set_cons_succ, i64_w, i32_w]
                rfl
              refine pure_ (i := 3) (N := some 50) (v := ?_) (a' := ?_) #[false, true, true, true, false, false, false, false, false, false, false, false, false, false, false, false] rfl rfl (any_of HT_.out (by kernel_rfl)) (fun _ _ _ h => h) (Or.inl ⟨by rfl, ?_⟩) ?_ ?_
              rotate_left
              · intro w'
                go_simp
                with_reducible rfl
              rotate_left
              · simp only [Act.put, List.setIfInBounds_toArray, List.set_cons_zero, List.set_cons_succ, i64_w, i32_w]
                rfl
              refine pure_ (i := 5) (N := some 52) (v := ?_) (a' := ?_) #[false, true, true, true, false, true, false, false, false, false, false, false, false, false, false, false] rfl rfl (any_of HT_.out (by kernel_rfl)) (fun _ _ _ h => h) (Or.inl ⟨by rfl, ?_⟩) ?_ ?_
              rotate_left
              · intro w'
                go_simp
                with_reducible rfl
              rotate_left
              · simp only [Act.put, List.setIfInBounds_toArray, List.set_cons_zero, List.set_cons_succ, i64_w, i32_w]
                rfl
              refine pure_ (i := 6) (N := some 53) (v := ?_) (a' := ?_) #[false, true, true, true, false, true, true, false, false, false, false, false, false, false, false, false] rfl rfl (any_of HT_.out (by kernel_rfl)) (fun _ _ _ h => h) (Or.inl ⟨by rfl, ?_⟩) ?_ ?_
              rotate_left
              · intro w'
                go_simp
                with_reducible rfl
              rotate_left
              · simp only [Act.put, List.setIfInBounds_toArray, List.set_cons_zero, List.set_cons_succ, i64_w, i32_w]
                rfl
              refine pure_ (i := 7) (N := some 54) (v := ?_) (a' := ?_) #[false, true, true, true, false, true, true, true, false, false, false, false, false, false, false, false] rfl rfl (any_of HT_.out (by kernel_rfl)) (fun _ _ _ h => h) (Or.inl ⟨by rfl, ?_⟩) ?_ ?_
              rotate_left
              · intro w'
                go_simp
                with_reducible rfl
              rotate_left
              · simp only [Act.put, List.setIfInBounds_toArray, List.set_cons_zero, List.set_cons_succ, i64_w, i32_w]
                rfl
              refine pure_ (i := 11) (N := some 58) (v := ?_) (a' := ?_) #[false, true, true, true, false, true, true, true, false, false, false, true, false, false, false, false] rfl rfl (any_of HT_.out (by kernel_rfl)) (fun _ _ _ h => h) (Or.inl ⟨by rfl, ?_⟩) ?_ ?_
              rotate_left
              · intro w'
                go_simp
                with_reducible rfl
              rotate_left
              · simp only [Act.put, List.setIfInBounds_toArray, List.set_cons_zero, List.set_cons_succ, i64_w, i32_w]
                rfl
              refine pure_ (i := 12) (N := some 59) (v := ?_) (a' := ?_) #[false, true, true, true, false, true, true, true, false, false, false, true, true, false, false, false] rfl rfl (any_of HT_.out (by kernel_rfl)) (fun _ _ _ h => h) (Or.inl ⟨by rfl, ?_⟩) ?_ ?_
              rotate_left
              · intro w'
                go_simp
                with_reducible rfl
              rotate_left
              · simp only [Act.put, List.setIfInBounds_toArray, List.set_cons_zero, List.set_cons_succ, i64_w, i32_w]
                rfl
              refine pure_ (i := 13) (N := some 60) (v := ?_) (a' := ?_) #[false, true, true, true, false, true, true, true, false, false, false, true, true, true, false, false] rfl rfl (any_of HT_.out (by kernel_rfl)) (fun _ _ _ h => h) (Or.inl ⟨by rfl, ?_⟩) ?_ ?_
              rotate_left
              · intro w'
                go_simp
                with_reducible rfl
              rotate_left
              · simp only [Act.put, List.setIfInBounds_toArray, List.set_cons_zero, List.set_cons_succ, i64_w, i32_w]
                rfl
              refine take_ (i := 8) (N := some 55) (v := ?_) (a' := ?_) #[false, true, true, true, false, true, true, true, true, false, false, true, true, true, false, false] rfl rfl (take_ofW HT_.out HW_.out (by kernel_rfl)) (fun _ _ _ h => h) (Or.inl ⟨by rfl, ?_⟩) hHeld ?_ ?_
              rotate_left
              · intro w' s0
                go_simp
                with_reducible rfl
              rotate_left
              · simp only [Act.put, List.setIfInBounds_toArray, List.set_cons_zero, List.set_cons_succ, i64_w, i32_w]
                rfl
              refine two_ (i := 0) (j := 9) (Ni := some 47) (Nj := some 56) #[true, true, true, true, false, true, true, true, true, false, false, true, true, true, false, false] #[false, true, true, true, false, true, true, true, true, true, false, true, true, true, false, false] rfl rfl rfl rfl (two_of HT_.out (by kernel_rfl)) (by decide) (by decide) (fun K hK => ?_) (fun K hK => ?_)
              · refine Kd.R_lit_step (Kd.int .i64) (w0 := w) w.heap.size 3 (by rfl) (N := 47) rfl (xs := ([] : List Int)) (inner := []) (ok := fun k_ => SZ ≤ k_) (okp := fun _ => False) (by go_simp; done) (Reps.none _ _) (fun _ hk => hk.elim) HSZ.out HB.out HB.out.size (by simp) ?_
                intro va w31 hr hb_ hg_ hat_
                replace HOU := Aside0.mk (Kd.R_grown HOU.out hg_ (fun _ _ hk => by cases hk))
                replace HSZ := Aside0.mk (Nat.le_trans HSZ.out hg_.size)
                replace HB := Aside0.mk hb_
                have Ha := Aside0.mk hr
                clear hr hb_ hg_ hat_
                refine hK.out _ _ ((HB.out.cell (World.block_lt_of_cell? w _ hx0)).trans hx0) (fun hHeld => ?_)
                clear hK K
                refine norm_ (a' := ?_) ?_ ?_
                rotate_left
                · show Act.put _ (some 47) _ = _
                  simp only [Act.put, List.setIfInBounds_toArray, List.set_cons_zero, List.set_cons_succ, i64_w, i32_w]
                  rfl
                refine two_ (i := 4) (j := 9) (Ni := some 51) (Nj := some 56) #[true, true, true, true, true, true, true, true, true, false, false, true, true, true, false, false] #[true, true, true, true, false, true, true, true, true, true, false, true, true, true, false, false] rfl rfl rfl rfl (two_of HT_.out (by kernel_rfl)) (by decide) (by decide) (fun K hK => ?_) (fun K hK => ?_)
                · have HSZ0 := HSZ
                  have Ha2 := Aside0.mk (Kd.R_mono (ok' := fun k_ => SZ ≤ k_ ∨ w31.heap.size ≤ k_) Ha.out (fun k_ hk_ => .inl hk_))
                  refine Kd.R_append_rows_step (Kd.int .i64) (w0 := w) w.heap.size (by rfl) (.tmp 47) (.tmp 50) 37 3 (.int .i64 0) 8 rfl Try.underlying37 info3 rfl (by decide) (by omega) _ _ _ _ _ _ _ (fun _ => False) rfl rfl Ha2.out ((R_ctake HOU.out hjl)) (fun _ _ h => h) (fun _ h => h.elim) (fun k_ hk_ => .inr hk_) HB.out HB.out.size (by simp only [List.length_nil]; omega) ?_
                  intro vb w32 hr hb_ hg_ hat_
                  rw [List.nil_append] at hr
                  replace HOU := Aside0.mk (Kd.R_grown HOU.out hg_ (fun k_ hk_ e_ => Nat.not_lt.2 (Ha.out.1 k_ e_.symm) hk_))
                  replace HSZ := Aside0.mk (Nat.le_trans HSZ.out hg_.size)
                  replace HB := Aside0.mk hb_
                  have Hb := Aside0.mk hr
                  clear hr hb_ hg_ hat_
                  replace Hb := Aside0.mk (Kd.R_mono (ok' := fun k_ => SZ ≤ k_) Hb.out (fun k_ hk_ => hk_.elim id (fun h_ => Nat.le_trans HSZ0.out h_)))
                  clear Ha Ha2 HSZ0
                  refine hK.out _ _ ((HB.out.cell (World.block_lt_of_cell? w _ hx0)).trans hx0) (fun hHeld => ?_)
                  clear hK K
                  refine norm_ (a' := ?_) ?_ ?_
                  rotate_left
                  · show Act.put _ (some 51) _ = _
                    simp only [Act.put, List.setIfInBounds_toArray, List.set_cons_zero, List.set_cons_succ, i64_w, i32_w]
                    rfl
                  refine one_ (i := 9) (N := some 56) #[true, true, true, true, true, true, true, true, true, true, false, true, true, true, false, false] rfl rfl (one_of HT_.out (by kernel_rfl)) (by decide) (fun K hK => ?_)
                  refine Kd.R_lit_step (Kd.int .i64) (w0 := w) w.heap.size 3 (by rfl) (N := 56) rfl (xs := ([x] : List Int)) (inner := [.int .i64 x]) (ok := fun _ => True) (okp := fun _ => False) (by go_simp; done) (Kd.reps_scalar [x]) (fun _ hk => hk.elim) trivial HB.out HB.out.size (by simp) ?_
                  intro vc w33 hr hb_ hg_ hat_
                  replace HOU := Aside0.mk (Kd.R_grown HOU.out hg_ (fun _ _ hk => by cases hk))
                  replace Hb := Aside0.mk (Kd.R_grown Hb.out hg_ (fun _ _ hk => by cases hk))
                  replace HSZ := Aside0.mk (Nat.le_trans HSZ.out hg_.size)
                  replace HB := Aside0.mk hb_
                  have Hc := Aside0.mk hr
                  clear hr hb_ hg_ hat_
                  refine hK.out _ _ ((HB.out.cell (World.block_lt_of_cell? w _ hx0)).trans hx0) (fun hHeld => ?_)
                  clear hK K
                  refine norm_ (a' := ?_) ?_ ?_
                  rotate_left
                  · show Act.put _ (some 56) _ = _
                    simp only [Act.put, List.setIfInBounds_toArray, List.set_cons_zero, List.set_cons_succ, i64_w, i32_w]
                    rfl
                  obtain ⟨Ac_, cc_, ec_⟩ := Kd.R_slice Hc.out
                  subst ec_
                  replace Hb := Aside0.mk (Kd.R_mono (ok' := fun k_ => SZ ≤ k_ ∨ w33.heap.size ≤ k_) Hb.out (fun k_ hk_ => .inl hk_))
                  refine one_ (i := 10) (N := some 57) #[true, true, true, true, true, true, true, true, true, true, true, true, true, true, false, false] rfl rfl (one_of HT_.out (by kernel_rfl)) (by decide) (fun K hK => ?_)
                  refine Kd.R_append_rows_step (Kd.int .i64) (w0 := w) w.heap.size (by rfl) (.tmp 51) (.tmp 56) 37 3 (.int .i64 0) 8 rfl Try.underlying37 info3 rfl (by decide) (by omega) _ _ _ _ _ _ _ (fun _ => False) rfl rfl Hb.out ((Kd.R_reads' Hc.out).2.2) (fun _ _ h => h) (fun _ h => h.elim) (fun k_ hk_ => .inr hk_) HB.out HB.out.size (by simp only [List.length_take, List.length_cons, List.length_nil]; omega) ?_
                  intro vd w37 hr hb_ hg_ hat_
                  replace HOU := Aside0.mk (Kd.R_grown HOU.out hg_ (fun k_ hk_ e_ => (Hb.out.1 k_ e_.symm).elim (fun h_ => Nat.not_lt.2 h_ hk_) (fun h_ => Nat.not_lt.2 (Nat.le_trans HSZ.out h_) hk_)))
                  replace HSZ := Aside0.mk (Nat.le_trans HSZ.out hg_.size)
                  replace HB := Aside0.mk hb_
                  have Hd := Aside0.mk hr
                  clear hr hb_ hg_ hat_
                  clear Hb Hc
                  refine hK.out _ _ ((HB.out.cell (World.block_lt_of_cell? w _ hx0)).trans hx0) (fun hHeld => ?_)
                  clear hK K
                  refine norm_ (a' := ?_) ?_ ?_
                  rotate_left
                  · show Act.put _ (some 57) _ = _
                    simp only [Act.put, List.setIfInBounds_toArray, List.set_cons_zero, List.set_cons_succ, i64_w, i32_w]
                    rfl
                  replace Hd := Aside0.mk (Kd.R_mono (ok' := fun k_ => True) Hd.out (fun k_ hk_ => trivial))
                  refine one_ (i := 14) (N := some 61) #[true, true, true, true, true, true, true, true, true, true, true, true, true, true, true, false] rfl rfl (one_of HT_.out (by kernel_rfl)) (by decide) (fun K hK => ?_)
                  refine Kd.R_append_rows_step (Kd.int .i64) (w0 := w) w.heap.size (by rfl) (.tmp 57) (.tmp 60) 37 3 (.int .i64 0) 8 rfl Try.underlying37 info3 rfl (by decide) (by omega) _ _ _ _ _ _ _ (fun _ => False) rfl rfl Hd.out ((R_cdrop HOU.out hjl (R_cap HOU.out))) (fun _ _ h => h) (fun _ h => h.elim) (fun k_ hk_ => trivial) HB.out HB.out.size (by simp only [List.length_append, List.length_take, List.length_cons, List.length_nil]; omega) ?_
                  intro ve w38 hr hb_ hg_ hat_
                  replace HSZ := Aside0.mk (Nat.le_trans HSZ.out hg_.size)
                  replace HB := Aside0.mk hb_
                  have He := Aside0.mk hr
                  clear hr hb_ hg_ hat_
                  clear Hd HOU HSZ SZ
                  refine hK.out _ _ ((HB.out.cell (World.block_lt_of_cell? w _ hx0)).trans hx0) (fun hHeld => ?_)
                  clear hK K
                  refine norm_ (a' := ?_) ?_ ?_
                  rotate_left
                  · show Act.put _ (some 61) _ = _
                    simp only [Act.put, List.setIfInBounds_toArray, List.set_cons_zero, List.set_cons_succ, i64_w, i32_w]
                    rfl
                  refine pure_ (i := 15) (N := some 4) (v := ?_) (a' := ?_) #[true, true, true, true, true, true, true, true, true, true, true, true, true, true, true, true] rfl rfl (any_of HT_.out (by kernel_rfl)) (fun _ _ _ h => h) (Or.inl ⟨by rfl, ?_⟩) ?_ ?_
                  rotate_left
                  · intro w'
                    go_simp
                    with_reducible rfl
                  rotate_left
                  · simp only [Act.put, List.setIfInBounds_toArray, List.set_cons_zero, List.set_cons_succ, i64_w, i32_w]
                    rfl
                  refine done_ (done_of HT_.out (by kernel_rfl)) ?_
                  clear hHeld HT_ HW_
                  have hl9 : (insR x ys).length ≤ kk + 1 := Nat.le_trans (insR_len x ys) (by omega)
                  have hHe := He.out
                  rw [← HI.out] at hHe
                  obtain ⟨A9, c9, e9⟩ := Kd.R_slice hHe
                  subst e9
                  obtain ⟨a9, h9, -⟩ := Kd.at_int (Kd.R_reads' hHe).2.2 0 (Int.le_refl _) (by rw [HI.out]; simp only [List.length_append, List.length_cons, List.length_nil]; omega)
                  subst h9
                  have HO := Aside0.mk hHe
                  have HY9 : Aside0 (∀ y_ ∈ insR x ys, inR y_) := ⟨insR_in HXI.out HYI.out⟩
                  clear hHe He HI
                  generalize (if c = jj then some ad else some (ad.add jj)) = A60_
                  go_wp2
                  go_roundg (l0.length - (kk + 1))
                  case measure => omega
                  case rel => exact ⟨kk + 1, a9, c9, insR x ys, by go_num, by omega, by omega, rfl, hl9, HY9, HRES, HO, HB⟩
                · replace Ha := Aside0.mk (Kd.R_bound Ha.out)
                  obtain ⟨L, hL⟩ : ∃ s, w31.heap.size = s := ⟨_, rfl⟩
                  have HL0 := Aside0.mk hL
                  refine Kd.R_lit_step (Kd.int .i64) (w0 := w) w.heap.size 3 (by rfl) (N := 56) rfl (xs := ([x] : List Int)) (inner := [.int .i64 x]) (ok := fun k_ => w31.heap.size ≤ k_) (okp := fun _ => False) (by go_simp; done) (Kd.reps_scalar [x]) (fun _ hk => hk.elim) (Nat.le_refl _) HB.out HB.out.size (by simp) ?_
                  intro vc w32 hr hb_ hg_ hat_
                  replace HOU := Aside0.mk (Kd.R_grown HOU.out hg_ (fun _ _ hk => by cases hk))
                  replace Ha := Aside0.mk (Kd.R_grown Ha.out hg_ (fun _ _ hk => by cases hk))
                  replace HSZ := Aside0.mk (Nat.le_trans HSZ.out hg_.size)
                  replace HB := Aside0.mk hb_
                  have Hc := Aside0.mk hr
                  clear hr hb_ hg_ hat_
                  clear HL0 hL L
                  refine hK.out _ _ ((HB.out.cell (World.block_lt_of_cell? w _ hx0)).trans hx0) (fun hHeld => ?_)
                  clear hK K
                  refine norm_ (a' := ?_) ?_ ?_
                  rotate_left
                  · show Act.put _ (some 56) _ = _
                    simp only [Act.put, List.setIfInBounds_toArray, List.set_cons_zero, List.set_cons_succ, i64_w, i32_w]
                    rfl
                  have HSZ0 := HSZ
                  have Ha2 := Aside0.mk (Kd.R_mono (ok' := fun k_ => SZ ≤ k_ ∨ w32.heap.size ≤ k_) Ha.out (fun k_ hk_ => .inl hk_.1))
                  refine one_ (i := 4) (N := some 51) #[true, true, true, true, true, true, true, true, true, true, false, true, true, true, false, false] rfl rfl (one_of HT_.out (by kernel_rfl)) (by decide) (fun K hK => ?_)
                  refine Kd.R_append_rows_step (Kd.int .i64) (w0 := w) w.heap.size (by rfl) (.tmp 47) (.tmp 50) 37 3 (.int .i64 0) 8 rfl Try.underlying37 info3 rfl (by decide) (by omega) _ _ _ _ _ _ _ (fun _ => False) rfl rfl Ha2.out ((R_ctake HOU.out hjl)) (fun _ _ h => h) (fun _ h => h.elim) (fun k_ hk_ => .inr hk_) HB.out HB.out.size (by simp only [List.length_nil]; omega) ?_
                  intro vb w33 hr hb_ hg_ hat_
                  rw [List.nil_append] at hr
                  replace HOU := Aside0.mk (Kd.R_grown HOU.out hg_ (fun k_ hk_ e_ => Nat.not_lt.2 (Ha.out.1 k_ e_.symm).1 hk_))
                  replace Hc := Aside0.mk (Kd.R_grown Hc.out hg_ (fun k_ hk_ e_ => Nat.not_lt.2 hk_ (Ha.out.1 k_ e_.symm).2.2.1))
                  replace HSZ := Aside0.mk (Nat.le_trans HSZ.out hg_.size)
                  replace HB := Aside0.mk hb_
                  have Hb := Aside0.mk hr
                  clear hr hb_ hg_ hat_
                  replace Hb := Aside0.mk (Kd.R_mono (ok' := fun k_ => SZ ≤ k_) Hb.out (fun k_ hk_ => hk_.elim id (fun h_ => Nat.le_trans HSZ0.out h_)))
                  clear Ha Ha2 HSZ0
                  refine hK.out _ _ ((HB.out.cell (World.block_lt_of_cell? w _ hx0)).trans hx0) (fun hHeld => ?_)
                  clear hK K
                  refine norm_ (a' := ?_) ?_ ?_
                  rotate_left
                  · show Act.put _ (some 51) _ = _
                    simp only [Act.put, List.setIfInBounds_toArray, List.set_cons_zero, List.set_cons_succ, i64_w, i32_w]
                    rfl
                  obtain ⟨Ac_, cc_, ec_⟩ := Kd.R_slice Hc.out
                  subst ec_
                  replace Hb := Aside0.mk (Kd.R_mono (ok' := fun k_ => SZ ≤ k_ ∨ w33.heap.size ≤ k_) Hb.out (fun k_ hk_ => .inl hk_))
                  refine one_ (i := 10) (N := some 57) #[true, true, true, true, true, true, true, true, true, true, true, true, true, true, false, false] rfl rfl (one_of HT_.out (by kernel_rfl)) (by decide) (fun K hK => ?_)
                  refine Kd.R_append_rows_step (Kd.int .i64) (w0 := w) w.heap.size (by rfl) (.tmp 51) (.tmp 56) 37 3 (.int .i64 0) 8 rfl Try.underlying37 info3 rfl (by decide) (by omega) _ _ _ _ _ _ _ (fun _ => False) rfl rfl Hb.out ((Kd.R_reads' Hc.out).2.2) (fun _ _ h => h) (fun _ h => h.elim) (fun k_ hk_ => .inr hk_) HB.out HB.out.size (by simp only [List.length_take, List.length_cons, List.length_nil]; omega) ?_
                  intro vd w37 hr hb_ hg_ hat_
                  replace HOU := Aside0.mk (Kd.R_grown HOU.out hg_ (fun k_ hk_ e_ => (Hb.out.1 k_ e_.symm).elim (fun h_ => Nat.not_lt.2 h_ hk_) (fun h_ => Nat.not_lt.2 (Nat.le_trans HSZ.out h_) hk_)))
                  replace HSZ := Aside0.mk (Nat.le_trans HSZ.out hg_.size)
                  replace HB := Aside0.mk hb_
                  have Hd := Aside0.mk hr
                  clear hr hb_ hg_ hat_
                  clear Hb Hc
                  refine hK.out _ _ ((HB.out.cell (World.block_lt_of_cell? w _ hx0)).trans hx0) (fun hHeld => ?_)
                  clear hK K
                  refine norm_ (a' := ?_) ?_ ?_
                  rotate_left
                  · show Act.put _ (some 57) _ = _
                    simp only [Act.put, List.setIfInBounds_toArray, List.set_cons_zero, List.set_cons_succ, i64_w, i32_w]
                    rfl
                  replace Hd := Aside0.mk (Kd.R_mono (ok' := fun k_ => True) Hd.out (fun k_ hk_ => trivial))
                  refine one_ (i := 14) (N := some 61) #[true, true, true, true, true, true, true, true, true, true, true, true, true, true, true, false] rfl rfl (one_of HT_.out (by kernel_rfl)) (by decide) (fun K hK => ?_)
                  refine Kd.R_append_rows_step (Kd.int .i64) (w0 := w) w.heap.size (by rfl) (.tmp 57) (.tmp 60) 37 3 (.int .i64 0) 8 rfl Try.underlying37 info3 rfl (by decide) (by omega) _ _ _ _ _ _ _ (fun _ => False) rfl rfl Hd.out ((R_cdrop HOU.out hjl (R_cap HOU.out))) (fun _ _ h => h) (fun _ h => h.elim) (fun k_ hk_ => trivial) HB.out HB.out.size (by simp only [List.length_append, List.length_take, List.length_cons, List.length_nil]; omega) ?_
                  intro ve w38 hr hb_ hg_ hat_
                  replace HSZ := Aside0.mk (Nat.le_trans HSZ.out hg_.size)
                  replace HB := Aside0.mk hb_
                  have He := Aside0.mk hr
                  clear hr hb_ hg_ hat_
                  clear Hd HOU HSZ SZ
                  refine hK.out _ _ ((HB.out.cell (World.block_lt_of_cell? w _ hx0)).trans hx0) (fun hHeld => ?_)
                  clear hK K
                  refine norm_ (a' := ?_) ?_ ?_
                  rotate_left
                  · show Act.put _ (some 61) _ = _
                    simp only [Act.put, List.setIfInBounds_toArray, List.set_cons_zero, List.set_cons_succ, i64_w, i32_w]
                    rfl
                  refine pure_ (i := 15) (N := some 4) (v := ?_) (a' := ?_) #[true, true, true, true, true, true, true, true, true, true, true, true, true, true, true, true] rfl rfl (any_of HT_.out (by kernel_rfl)) (fun _ _ _ h => h) (Or.inl ⟨by rfl, ?_⟩) ?_ ?_
                  rotate_left
                  · intro w'
                    go_simp
                    with_reducible rfl
                  rotate_left
                  · simp only [Act.put, List.setIfInBounds_toArray, List.set_cons_zero, List.set_cons_succ, i64_w, i32_w]
                    rfl
                  refine done_ (done_of HT_.out (by kernel_rfl)) ?_
                  clear hHeld HT_ HW_
                  have hl9 : (insR x ys).length ≤ kk + 1 := Nat.le_trans (insR_len x ys) (by omega)
                  have hHe := He.out
                  rw [← HI.out] at hHe
                  obtain ⟨A9, c9, e9⟩ := Kd.R_slice hHe
                  subst e9
                  obtain ⟨a9, h9, -⟩ := Kd.at_int (Kd.R_reads' hHe).2.2 0 (Int.le_refl _) (by rw [HI.out]; simp only [List.length_append, List.length_cons, List.length_nil]; omega)
                  subst h9
                  have HO := Aside0.mk hHe
                  have HY9 : Aside0 (∀ y_ ∈ insR x ys, inR y_) := ⟨insR_in HXI.out HYI.out⟩
                  clear hHe He HI
                  generalize (if c = jj then some ad else some (ad.add jj)) = A60_
                  go_wp2
                  go_roundg (l0.length - (kk + 1))
                  case measure => omega
                  case rel => exact ⟨kk + 1, a9, c9, insR x ys, by go_num, by omega, by omega, rfl, hl9, HY9, HRES, HO, HB⟩
              · refine Kd.R_lit_step (Kd.int .i64) (w0 := w) w.heap.size 3 (by rfl) (N := 56) rfl (xs := ([x] : List Int)) (inner := [.int .i64 x]) (ok := fun _ => True) (okp := fun _ => False) (by go_simp; done) (Kd.reps_scalar [x]) (fun _ hk => hk.elim) trivial HB.out HB.out.size (by simp) ?_
                intro vc w31 hr hb_ hg_ hat_
                replace HOU := Aside0.mk (Kd.R_grown HOU.out hg_ (fun _ _ hk => by cases hk))
                replace HSZ := Aside0.mk (Nat.le_trans HSZ.out hg_.size)
                replace HB := Aside0.mk hb_
                have Hc := Aside0.mk hr
                clear hr hb_ hg_ hat_
                refine hK.out _ _ ((HB.out.cell (World.block_lt_of_cell? w _ hx0)).trans hx0) (fun hHeld => ?_)
                clear hK K
                refine norm_ (a' := ?_) ?_ ?_
                rotate_left
                · show Act.put _ (some 56) _ = _
                  simp only [Act.put, List.setIfInBounds_toArray, List.set_cons_zero, List.set_cons_succ, i64_w, i32_w]
                  rfl
                replace Hc := Aside0.mk (Kd.R_bound Hc.out)
                refine one_ (i := 0) (N := some 47) #[true, true, true, true, false, true, true, true, true, true, false, true, true, true, false, false] rfl rfl (one_of HT_.out (by kernel_rfl)) (by decide) (fun K hK => ?_)
                refine Kd.R_lit_step (Kd.int .i64) (w0 := w) w.heap.size 3 (by rfl) (N := 47) rfl (xs := ([] : List Int)) (inner := []) (ok := fun k_ => w31.heap.size ≤ k_) (okp := fun _ => False) (by go_simp; done) (Reps.none _ _) (fun _ hk => hk.elim) (Nat.le_refl _) HB.out HB.out.size (by simp) ?_
                intro va w32 hr hb_ hg_ hat_
                replace HOU := Aside0.mk (Kd.R_grown HOU.out hg_ (fun _ _ hk => by cases hk))
                replace Hc := Aside0.mk (Kd.R_grown Hc.out hg_ (fun _ _ hk => by cases hk))
                have HSZ1 := HSZ
                replace HSZ := Aside0.mk (Nat.le_trans HSZ.out hg_.size)
                replace HB := Aside0.mk hb_
                have Ha := Aside0.mk hr
                clear hr hb_ hg_ hat_
                refine hK.out _ _ ((HB.out.cell (World.block_lt_of_cell? w _ hx0)).trans hx0) (fun hHeld => ?_)
                clear hK K
                refine norm_ (a' := ?_) ?_ ?_
                rotate_left
                · show Act.put _ (some 47) _ = _
                  simp only [Act.put, List.setIfInBounds_toArray, List.set_cons_zero, List.set_cons_succ, i64_w, i32_w]
                  rfl
                have HSZ0 := HSZ
                have Ha2 := Aside0.mk (Kd.R_mono (ok' := fun k_ => SZ ≤ k_ ∨ w32.heap.size ≤ k_) Ha.out (fun k_ hk_ => .inl (Nat.le_trans HSZ1.out hk_)))
                refine one_ (i := 4) (N := some 51) #[true, true, true, true, true, true, true, true, true, true, false, true, true, true, false, false] rfl rfl (one_of HT_.out (by kernel_rfl)) (by decide) (fun K hK => ?_)
                refine Kd.R_append_rows_step (Kd.int .i64) (w0 := w) w.heap.size (by rfl) (.tmp 47) (.tmp 50) 37 3 (.int .i64 0) 8 rfl Try.underlying37 info3 rfl (by decide) (by omega) _ _ _ _ _ _ _ (fun _ => False) rfl rfl Ha2.out ((R_ctake HOU.out hjl)) (fun _ _ h => h) (fun _ h => h.elim) (fun k_ hk_ => .inr hk_) HB.out HB.out.size (by simp only [List.length_nil]; omega) ?_
                intro vb w33 hr hb_ hg_ hat_
                rw [List.nil_append] at hr
                replace HOU := Aside0.mk (Kd.R_grown HOU.out hg_ (fun k_ hk_ e_ => Nat.not_lt.2 (Nat.le_trans HSZ1.out (Ha.out.1 k_ e_.symm)) hk_))
                replace Hc := Aside0.mk (Kd.R_grown Hc.out hg_ (fun k_ hk_ e_ => Nat.not_lt.2 (Ha.out.1 k_ e_.symm) hk_.2.2.1))
                replace HSZ := Aside0.mk (Nat.le_trans HSZ.out hg_.size)
                replace HB := Aside0.mk hb_
                have Hb := Aside0.mk hr
                clear hr hb_ hg_ hat_
                replace Hb := Aside0.mk (Kd.R_mono (ok' := fun k_ => SZ ≤ k_) Hb.out (fun k_ hk_ => hk_.elim id (fun h_ => Nat.le_trans HSZ0.out h_)))
                clear Ha Ha2 HSZ0 HSZ1
                refine hK.out _ _ ((HB.out.cell (World.block_lt_of_cell? w _ hx0)).trans hx0) (fun hHeld => ?_)
                clear hK K
                refine norm_ (a' := ?_) ?_ ?_
                rotate_left
                · show Act.put _ (some 51) _ = _
                  simp only [Act.put, List.setIfInBounds_toArray, List.set_cons_zero, List.set_cons_succ, i64_w, i32_w]
                  rfl
                obtain ⟨Ac_, cc_, ec_⟩ := Kd.R_slice Hc.out
                subst ec_
                replace Hb := Aside0.mk (Kd.R_mono (ok' := fun k_ => SZ ≤ k_ ∨ w33.heap.size ≤ k_) Hb.out (fun k_ hk_ => .inl hk_))
                refine one_ (i := 10) (N := some 57) #[true, true, true, true, true, true, true, true, true, true, true, true, true, true, false, false] rfl rfl (one_of HT_.out (by kernel_rfl)) (by decide) (fun K hK => ?_)
                refine Kd.R_append_rows_step (Kd.int .i64) (w0 := w) w.heap.size (by rfl) (.tmp 51) (.tmp 56) 37 3 (.int .i64 0) 8 rfl Try.underlying37 info3 rfl (by decide) (by omega) _ _ _ _ _ _ _ (fun _ => False) rfl rfl Hb.out ((Kd.R_reads' Hc.out).2.2) (fun _ _ h => h) (fun _ h => h.elim) (fun k_ hk_ => .inr hk_) HB.out HB.out.size (by simp only [List.length_take, List.length_cons, List.length_nil]; omega) ?_
                intro vd w37 hr hb_ hg_ hat_
                replace HOU := Aside0.mk (Kd.R_grown HOU.out hg_ (fun k_ hk_ e_ => (Hb.out.1 k_ e_.symm).elim (fun h_ => Nat.not_lt.2 h_ hk_) (fun h_ => Nat.not_lt.2 (Nat.le_trans HSZ.out h_) hk_)))
                replace HSZ := Aside0.mk (Nat.le_trans HSZ.out hg_.size)
                replace HB := Aside0.mk hb_
                have Hd := Aside0.mk hr
                clear hr hb_ hg_ hat_
                clear Hb Hc
                refine hK.out _ _ ((HB.out.cell (World.block_lt_of_cell? w _ hx0)).trans hx0) (fun hHeld => ?_)
                clear hK K
                refine norm_ (a' := ?_) ?_ ?_
                rotate_left
                · show Act.put _ (some 57) _ = _
                  simp only [Act.put, List.setIfInBounds_toArray, List.set_cons_zero, List.set_cons_succ, i64_w, i32_w]
                  rfl
                replace Hd := Aside0.mk (Kd.R_mono (ok' := fun k_ => True) Hd.out (fun k_ hk_ => trivial))
                refine one_ (i := 14) (N := some 61) #[true, true, true, true, true, true, true, true, true, true, true, true, true, true, true, false] rfl rfl (one_of HT_.out (by kernel_rfl)) (by decide) (fun K hK => ?_)
                refine Kd.R_append_rows_step (Kd.int .i64) (w0 := w) w.heap.size (by rfl) (.tmp 57) (.tmp 60) 37 3 (.int .i64 0) 8 rfl Try.underlying37 info3 rfl (by decide) (by omega) _ _ _ _ _ _ _ (fun _ => False) rfl rfl Hd.out ((R_cdrop HOU.out hjl (R_cap HOU.out))) (fun _ _ h => h) (fun _ h => h.elim) (fun k_ hk_ => trivial) HB.out HB.out.size (by simp only [List.length_append, List.length_take, List.length_cons, List.length_nil]; omega) ?_
                intro ve w38 hr hb_ hg_ hat_
                replace HSZ := Aside0.mk (Nat.le_trans HSZ.out hg_.size)
                replace HB := Aside0.mk hb_
                have He := Aside0.mk hr
                clear hr hb_ hg_ hat_
                clear Hd HOU HSZ SZ
                refine hK.out _ _ ((HB.out.cell (World.block_lt_of_cell? w _ hx0)).trans hx0) (fun hHeld => ?_)
                clear hK K
                refine norm_ (a' := ?_) ?_ ?_
                rotate_left
                · show Act.put _ (some 61) _ = _
                  simp only [Act.put, List.setIfInBounds_toArray, List.set_cons_zero, List.set_cons_succ, i64_w, i32_w]
                  rfl
                refine pure_ (i := 15) (N := some 4) (v := ?_) (a' := ?_) #[true, true, true, true, true, true, true, true, true, true, true, true, true, true, true, true] rfl rfl (any_of HT_.out (by kernel_rfl)) (fun _ _ _ h => h) (Or.inl ⟨by rfl, ?_⟩) ?_ ?_
                rotate_left
                · intro w'
                  go_simp
                  with_reducible rfl
                rotate_left
                · simp only [Act.put, List.setIfInBounds_toArray, List.set_cons_zero, List.set_cons_succ, i64_w, i32_w]
                  rfl
                refine done_ (done_of HT_.out (by kernel_rfl)) ?_
                clear hHeld HT_ HW_
                have hl9 : (insR x ys).length ≤ kk + 1 := Nat.le_trans (insR_len x ys) (by omega)
                have hHe := He.out
                rw [← HI.out] at hHe
                obtain ⟨A9, c9, e9⟩ := Kd.R_slice hHe
                subst e9
                obtain ⟨a9, h9, -⟩ := Kd.at_int (Kd.R_reads' hHe).2.2 0 (Int.le_refl _) (by rw [HI.out]; simp only [List.length_append, List.length_cons, List.length_nil]; omega)
                subst h9
                have HO := Aside0.mk hHe
                have HY9 : Aside0 (∀ y_ ∈ insR x ys, inR y_) := ⟨insR_in HXI.out HYI.out⟩
                clear hHe He HI
                generalize (if c = jj then some ad else some (ad.add jj)) = A60_
                go_wp2
                go_roundg (l0.length - (kk + 1))
                case measure => omega
                case rel => exact ⟨kk + 1, a9, c9, insR x ys, by go_num, by omega, by omega, rfl, hl9, HY9, HRES, HO, HB⟩
        · have hjz : ¬ (jj : Int) < (ys.length : Int) := by omega
          have hjl : jj ≤ ys.length := hjj
          have hJ := HJ.out
          rw [List.drop_of_length_le (by omega), cntB, Nat.add_zero] at hJ
          have hI : insR x ys = ys.take jj ++ [x] ++ ys.drop jj := by unfold insR; rw [← hJ, if_neg (by rw [List.getElem?_eq_none (by omega)]; simp)]
          have HI := Aside0.mk hI
          have HX0 := Aside0.mk hx0
          clear hJ HJ hI hx0
          go_upto_region 6 with fail
          have hbd := below_drew (Below.refl wr.heap.size wr)
          replace HO := Aside0.mk (Kd.R_below HO.out hbd)
          replace HB := Aside0.mk (HB.out.trans (hbd.mono HB.out.size))
          clear hbd
          generalize hw9 : wr.drew = w20 at *
          refine start_ (n := 15) (S := fun w' => True) (ds := []) #[false, false, false, false, false, false, false, false, false, false, false, false, false, false, false] (by kernel_rfl) rfl rfl trivial (fun hHeld => ?_)
          refine with_tabW so6_tab so6_bits (fun HT_ HW_ => ?_)
          rw [hw9]
          clear hw9
          refine pure_ (i := 0) (N := some 15) (v := ?_) (a' := ?_) #[true, false, false, false, false, false, false, false, false, false, false, false, false, false, false] rfl rfl (any_of HT_.out (by kernel_rfl)) (fun _ _ _ h => h) (Or.inl ⟨by rfl, ?_⟩) ?_ ?_
          rotate_left
          · intro w'
            go_simp
            with_reducible rfl
          rotate_left
          · simp only [Act.put, List.setIfInBounds_toArray, List.set_cons_zero, List.set_cons_succ, i64_w, i32_w]
            rfl
          refine pure_ (i := 1) (N := some 16) (v := ?_) (a' := ?_) #[true, true, false, false, false, false, false, false, false, false, false, false, false, false, false] rfl rfl (any_of HT_.out (by kernel_rfl)) (fun _ _ _ h => h) (Or.inl ⟨by rfl, ?_⟩) ?_ ?_
          rotate_left
          · intro w'
            go_simp
            with_reducible rfl
          rotate_left
          · simp only [Act.put, List.setIfInBounds_toArray, List.set_cons_zero, List.set_cons_succ, i64_w, i32_w]
            rfl
          refine pure_ (i := 2) (N := some 17) (v := ?_) (a' := ?_) #[true, true, true, false, false, false, false, false, false, false, false, false, false, false, false] rfl rfl (any_of HT_.out (by kernel_rfl)) (fun _ _ _ h => h) (Or.inl ⟨by rfl, ?_⟩) ?_ ?_
          rotate_left
          · intro w'
            go_simp
            with_reducible rfl
          rotate_left
          · simp only [Act.put, List.setIfInBounds_toArray, List.set_cons_zero, List.set_cons_succ, i64_w, i32_w]
            rfl
          refine pure_ (i := 3) (N := some 18) (v := ?_) (a' := ?_) #[true, true, true, true, false, false, false, false, false, false, false, false, false, false, false] rfl rfl (any_of HT_.out (by kernel_rfl)) (fun _ _ _ h => h) (Or.inl ⟨by rfl, ?_⟩) ?_ ?_
          rotate_left
          · intro w'
            go_simp
            with_reducible rfl
          rotate_left
          · simp only [Act.put, List.setIfInBounds_toArray, List.set_cons_zero, List.set_cons_succ, i64_w, i32_w]
            rfl
          refine pure_ (i := 4) (N := some 19) (v := ?_) (a' := ?_) #[true, true, true, true, true, false, false, false, false, false, false, false, false, false, false] rfl rfl (any_of HT_.out (by kernel_rfl)) (fun _ _ _ h => h) (Or.inl ⟨by rfl, ?_⟩) ?_ ?_
          rotate_left
          · intro w'
            go_simp
            with_reducible rfl
          rotate_left
          · simp only [Act.put, List.setIfInBounds_toArray, List.set_cons_zero, List.set_cons_succ, i64_w, i32_w]
            rfl
          refine pure_ (i := 5) (N := some 20) (v := undef) (a' := ?_) #[true, true, true, true, true, true, false, false, false, false, false, false, false, false, false] rfl rfl (any_of HT_.out (by kernel_rfl)) (fun _ _ _ h => h) (Or.inr ⟨by rfl, rfl⟩) ?_ ?_
          rotate_left
          · simp only [Act.put, List.setIfInBounds_toArray, List.set_cons_zero, List.set_cons_succ, i64_w, i32_w]
            rfl
          refine pure_ (i := 6) (N := some 21) (v := undef) (a' := ?_) #[true, true, true, true, true, true, true, false, false, false, false, false, false, false, false] rfl rfl (any_of HT_.out (by kernel_rfl)) (fun _ _ _ h => h) (Or.inr ⟨by rfl, rfl⟩) ?_ ?_
          rotate_left
          · simp only [Act.put, List.setIfInBounds_toArray, List.set_cons_zero, List.set_cons_succ, i64_w, i32_w]
            rfl
          refine pure_ (i := 7) (N := some 22) (v := undef) (a' := ?_) #[true, true, true, true, true, true, true, true, false, false, false, false, false, false, false] rfl rfl (any_of HT_.out (by kernel_rfl)) (fun _ _ _ h => h) (Or.inr ⟨by rfl, rfl⟩) ?_ ?_
          rotate_left
          · simp only [Act.put, List.setIfInBounds_toArray, List.set_cons_zero, List.set_cons_succ, i64_w, i32_w]
            rfl
          refine pure_ (i := 8) (N := some 23) (v := undef) (a' := ?_) #[true, true, true, true, true, true, true, true, true, false, false, false, false, false, false] rfl rfl (any_of HT_.out (by kernel_rfl)) (fun _ _ _ h => h) (Or.inr ⟨by rfl, rfl⟩) ?_ ?_
          rotate_left
          · simp only [Act.put, List.setIfInBounds_toArray, List.set_cons_zero, List.set_cons_succ, i64_w, i32_w]
            rfl
          refine pure_ (i := 9) (N := some 24) (v := undef) (a' := ?_) #[true, true, true, true, true, true, true, true, true, true, false, false, false, false, false] rfl rfl (any_of HT_.out (by kernel_rfl)) (fun _ _ _ h => h) (Or.inr ⟨by rfl, rfl⟩) ?_ ?_
          rotate_left
          · simp only [Act.put, List.setIfInBounds_toArray, List.set_cons_zero, List.set_cons_succ, i64_w, i32_w]
            rfl
          refine pure_ (i := 10) (N := some 25) (v := undef) (a' := ?_) #[true, true, true, true, true, true, true, true, true, true, true, false, false, false, false] rfl rfl (any_of HT_.out (by kernel_rfl)) (fun _ _ _ h => h) (Or.inr ⟨by rfl, rfl⟩) ?_ ?_
          rotate_left
          · simp only [Act.put, List.setIfInBounds_toArray, List.set_cons_zero, List.set_cons_succ, i64_w, i32_w]
            rfl
          refine pure_ (i := 11) (N := some 26) (v := undef) (a' := ?_) #[true, true, true, true, true, true, true, true, true, true, true, true, false, false, false] rfl rfl (any_of HT_.out (by kernel_rfl)) (fun _ _ _ h => h) (Or.inr ⟨by rfl, rfl⟩) ?_ ?_
          rotate_left
          · simp only [Act.put, List.setIfInBounds_toArray, List.set_cons_zero, List.set_cons_succ, i64_w, i32_w]
            rfl
          refine pure_ (i := 12) (N := some 27) (v := undef) (a' := ?_) #[true, true, true, true, true, true, true, true, true, true, true, true, true, false, false] rfl rfl (any_of HT_.out (by kernel_rfl)) (fun _ _ _ h => h) (Or.inr ⟨by rfl, rfl⟩) ?_ ?_
          rotate_left
          · simp only [Act.put, List.setIfInBounds_toArray, List.set_cons_zero, List.set_cons_succ, i64_w, i32_w]
            rfl
          refine one_ (i := 13) (N := some 28) #[true, true, true, true, true, true, true, true, true, true, true, true, true, true, false] rfl rfl (one_of HT_.out (by kernel_rfl)) (by decide) (fun K hK => ?_)
          refine off_ (by rfl) ?_
          refine hK.out _ _ trivial (fun hHeld => ?_)
          clear hK K
          refine norm_ (a' := ?_) ?_ ?_
          rotate_left
          · show Act.put _ (some 28) _ = _
            simp only [Act.put, List.setIfInBounds_toArray, List.set_cons_zero, List.set_cons_succ, i64_w, i32_w]
            rfl
          refine pure_ (i := 14) (N := some 29) (v := ?_) (a' := ?_) #[true, true, true, true, true, true, true, true, true, true, true, true, true, true, true] rfl rfl (any_of HT_.out (by kernel_rfl)) (fun _ _ _ h => h) (Or.inl ⟨by rfl, ?_⟩) ?_ ?_
          rotate_left
          · intro w'
            go_simp
            with_reducible rfl
          rotate_left
          · simp only [Act.put, List.setIfInBounds_toArray, List.set_cons_zero, List.set_cons_succ, i64_w, i32_w]
            rfl
          refine done_ (done_of HT_.out (by kernel_rfl)) ?_
          clear hHeld HT_ HW_
          go_upto_region 8 with fail
          obtain ⟨wr3, hwr3⟩ : ∃ z : World, z = w20 := ⟨_, rfl⟩
          subst hwr3
          have hbd := below_drew (Below.refl wr3.heap.size wr3)
          replace HO := Aside0.mk (Kd.R_below HO.out hbd)
          replace HB := Aside0.mk (HB.out.trans (hbd.mono HB.out.size))
          clear hbd
          generalize hw9 : wr3.drew = w30 at *
          refine start_ (n := 15) (S := fun w' => True) (ds := []) #[false, false, false, false, false, false, false, false, false, false, false, false, false, false, false] (by kernel_rfl) rfl rfl trivial (fun hHeld => ?_)
          refine with_tabW so8_tab so8_bits (fun HT_ HW_ => ?_)
          rw [hw9]
          clear hw9
          refine pure_ (i := 0) (N := some 32) (v := ?_) (a' := ?_) #[true, false, false, false, false, false, false, false, false, false, false, false, false, false, false] rfl rfl (any_of HT_.out (by kernel_rfl)) (fun _ _ _ h => h) (Or.inl ⟨by rfl, ?_⟩) ?_ ?_
          rotate_left
          · intro w'
            go_simp
            with_reducible rfl
          rotate_left
          · simp only [Act.put, List.setIfInBounds_toArray, List.set_cons_zero, List.set_cons_succ, i64_w, i32_w]
            rfl
          refine pure_ (i := 1) (N := some 33) (v := ?_) (a' := ?_) #[true, true, false, false, false, false, false, false, false, false, false, false, false, false, false] rfl rfl (any_of HT_.out (by kernel_rfl)) (fun _ _ _ h => h) (Or.inl ⟨by rfl, ?_⟩) ?_ ?_
          rotate_left
          · intro w'
            go_simp
            with_reducible rfl
          rotate_left
          · simp only [Act.put, List.setIfInBounds_toArray, List.set_cons_zero, List.set_cons_succ, i64_w, i32_w]
            rfl
          refine pure_ (i := 2) (N := some 34) (v := ?_) (a' := ?_) #[true, true, true, false, false, false, false, false, false, false, false, false, false, false, false] rfl rfl (any_of HT_.out (by kernel_rfl)) (fun _ _ _ h => h) (Or.inl ⟨by rfl, ?_⟩) ?_ ?_
          rotate_left
          · intro w'
            go_simp
            with_reducible rfl
          rotate_left
          · simp only [Act.put, List.setIfInBounds_toArray, List.set_cons_zero, List.set_cons_succ, i64_w, i32_w]
            rfl
          refine pure_ (i := 3) (N := some 35) (v := ?_) (a' := ?_) #[true, true, true, true, false, false, false, false, false, false, false, false, false, false, false] rfl rfl (any_of HT_.out (by kernel_rfl)) (fun _ _ _ h => h) (Or.inl ⟨by rfl, ?_⟩) ?_ ?_
          rotate_left
          · intro w'
            go_simp
            with_reducible rfl
          rotate_left
          · simp only [Act.put, List.setIfInBounds_toArray, List.set_cons_zero, List.set_cons_succ, i64_w, i32_w]
            rfl
          refine pure_ (i := 4) (N := some 36) (v := ?_) (a' := ?_) #[true, true, true, true, true, false, false, false, false, false, false, false, false, false, false] rfl rfl (any_of HT_.out (by kernel_rfl)) (fun _ _ _ h => h) (Or.inl ⟨by rfl, ?_⟩) ?_ ?_
          rotate_left
          · intro w'
            go_simp
            with_reducible rfl
          rotate_left
          · simp only [Act.put, List.setIfInBounds_toArray, List.set_cons_zero, List.set_cons_succ, i64_w, i32_w]
            rfl
          refine pure_ (i := 5) (N := some 37) (v := undef) (a' := ?_) #[true, true, true, true, true, true, false, false, false, false, false, false, false, false, false] rfl rfl (any_of HT_.out (by kernel_rfl)) (fun _ _ _ h => h) (Or.inr ⟨by rfl, rfl⟩) ?_ ?_
          rotate_left
          · simp only [Act.put, List.setIfInBounds_toArray, List.set_cons_zero, List.set_cons_succ, i64_w, i32_w]
            rfl
          refine pure_ (i := 6) (N := some 38) (v := undef) (a' := ?_) #[true, true, true, true, true, true, true, false, false, false, false, false, false, false, false] rfl rfl (any_of HT_.out (by kernel_rfl)) (fun _ _ _ h => h) (Or.inr ⟨by rfl, rfl⟩) ?_ ?_
          rotate_left
          · simp only [Act.put, List.setIfInBounds_toArray, List.set_cons_zero, List.set_cons_succ, i64_w, i32_w]
            rfl
          refine pure_ (i := 7) (N := some 39) (v := undef) (a' := ?_) #[true, true, true, true, true, true, true, true, false, false, false, false, false, false, false] rfl rfl (any_of HT_.out (by kernel_rfl)) (fun _ _ _ h => h) (Or.inr ⟨by rfl, rfl⟩) ?_ ?_
          rotate_left
          · simp only [Act.put, List.setIfInBounds_toArray, List.set_cons_zero, List.set_cons_succ, i64_w, i32_w]
            rfl
          refine pure_ (i := 8) (N := some 40) (v := undef) (a' := ?_) #[true, true, true, true, true, true, true, true, true, false, false, false, false, false, false] rfl rfl (any_of HT_.out (by kernel_rfl)) (fun _ _ _ h => h) (Or.inr ⟨by rfl, rfl⟩) ?_ ?_
          rotate_left
          · simp only [Act.put, List.setIfInBounds_toArray, List.set_cons_zero, List.set_cons_succ, i64_w, i32_w]
            rfl
          refine pure_ (i := 9) (N := some 41) (v := undef) (a' := ?_) #[true, true, true, true, true, true, true, true, true, true, false, false, false, false, false] rfl rfl (any_of HT_.out (by kernel_rfl)) (fun _ _ _ h => h) (Or.inr ⟨by rfl, rfl⟩) ?_ ?_
          rotate_left
          · simp only [Act.put, List.setIfInBounds_toArray, List.set_cons_zero, List.set_cons_succ, i64_w, i32_w]
            rfl
          refine pure_ (i := 10) (N := some 42) (v := undef) (a' := ?_) #[true, true, true, true, true, true, true, true, true, true, true, false, false, false, false] rfl rfl (any_of HT_.out (by kernel_rfl)) (fun _ _ _ h => h) (Or.inr ⟨by rfl, rfl⟩) ?_ ?_
          rotate_left
          · simp only [Act.put, List.setIfInBounds_toArray, List.set_cons_zero, List.set_cons_succ, i64_w, i32_w]
            rfl
          refine pure_ (i := 11) (N := some 43) (v := undef) (a' := ?_) #[true, true, true, true, true, true, true, true, true, true, true, true, false, false, false] rfl rfl (any_of HT_.out (by kernel_rfl)) (fun _ _ _ h => h) (Or.inr ⟨by rfl, rfl⟩) ?_ ?_
          rotate_left
          · simp only [Act.put, List.setIfInBounds_toArray, List.set_cons_zero, List.set_cons_succ, i64_w, i32_w]
            rfl
          refine pure_ (i := 12) (N := some 44) (v := undef) (a' := ?_) #[true, true, true, true, true, true, true, true, true, true, true, true, true, false, false] rfl rfl (any_of HT_.out (by kernel_rfl)) (fun _ _ _ h => h) (Or.inr ⟨by rfl, rfl⟩) ?_ ?_
          rotate_left
          · simp only [Act.put, List.setIfInBounds_toArray, List.set_cons_zero, List.set_cons_succ, i64_w, i32_w]
            rfl
          refine pure_ (i := 13) (N := some 45) (v := undef) (a' := ?_) #[true, true, true, true, true, true, true, true, true, true, true, true, true, true, false] rfl rfl (any_of HT_.out (by kernel_rfl)) (fun _ _ _ h => h) (Or.inr ⟨by rfl, rfl⟩) ?_ ?_
          rotate_left
          · simp only [Act.put, List.setIfInBounds_toArray, List.set_cons_zero, List.set_cons_succ, i64_w, i32_w]
            rfl
          refine pure_ (i := 14) (N := some 46) (v := ?_) (a' := ?_) #[true, true, true, true, true, true, true, true, true, true, true, true, true, true, true] rfl rfl (any_of HT_.out (by kernel_rfl)) (fun _ _ _ h => h) (Or.inl ⟨by rfl, ?_⟩) ?_ ?_
          rotate_left
          · intro w'
            go_simp
            with_reducible rfl
          rotate_left
          · simp only [Act.put, List.setIfInBounds_toArray, List.set_cons_zero, List.set_cons_succ, i64_w, i32_w]
            rfl
          refine done_ (done_of HT_.out (by kernel_rfl)) ?_
          clear hHeld HT_ HW_
          go_upto_region 9 with fail
          have hx0 := HX0.out
          clear HX0
          obtain ⟨wr3, hwr3⟩ : ∃ z : World, z = w30 := ⟨_, rfl⟩
          subst hwr3
          have hjc : jj ≤ c := Nat.le_trans hjl (R_cap HO.out)
          have hbd := below_drew (Below.refl wr3.heap.size wr3)
          replace HO := Aside0.mk (Kd.R_below HO.out hbd)
          replace HB := Aside0.mk (HB.out.trans (hbd.mono HB.out.size))
          clear hbd
          generalize hw9 : wr3.drew = w30 at *
          have hx30 := ((HB.out.cell (World.block_lt_of_cell? w _ hx0)).trans hx0)
          refine start_ (n := 16) (S := fun w' => w'.cell? (adc.add kk) = some (.int .i64 x)) (ds := []) #[false, false, false, false, false, false, false, false, false, false, false, false, false, false, false, false] (by kernel_rfl) rfl rfl (by rw [hw9]; exact hx30) (fun hHeld => ?_)
          refine with_tabW so9_tab so9_bits (fun HT_ HW_ => ?_)
          rw [hw9] at hHeld ⊢
          clear hw9
          have HOU := Aside0.mk (Kd.R_mono (ok' := fun k_ => k_ < w30.heap.size) (Kd.R_bound HO.out) (fun k_ hk_ => hk_.2.2.1))
          clear HO hx30
          obtain ⟨SZ, hSZ⟩ : ∃ s, w30.heap.size = s := ⟨_, rfl⟩
          rw [hSZ] at HOU
          have HSZ := Aside0.mk (Nat.le_of_eq hSZ.symm)
          clear hSZ
          refine pure_ (i := 1) (N := some 48) (v := ?_) (a' := ?_) #[false, true, false, false, false, false, false, false, false, false, false, false, false, false, false, false] rfl rfl (any_of HT_.out (by kernel_rfl)) (fun _ _ _ h => h) (Or.inl ⟨by rfl, ?_⟩) ?_ ?_
          rotate_left
          · intro w'
            go_simp
            with_reducible rfl
          rotate_left
          · simp only [Act.put, List.setIfInBounds_toArray, List.set_cons_zero, List.set_cons_succ, i64_w, i32_w]
            rfl
          refine pure_ (i := 2) (N := some 49) (v := ?_) (a' := ?_) #[false, true, true, false, false, false, false, false, false, false, false, false, false, false, false, false] rfl rfl (any_of HT_.out (by kernel_rfl)) (fun _ _ _ h => h) (Or.inl ⟨by rfl, ?_⟩) ?_ ?_
          rotate_left
          · intro w'
            go_simp
            with_reducible rfl
          rotate_left
          · simp only [Act.put, List.setIfInBounds_toArray, List.set_cons_zero, List.set_cons_succ, i64_w, i32_w]
            rfl
          refine pure_ (i := 3) (N := some 50) (v := ?_) (a' := ?_) #[false, true, true, true, false, false, false, false, false, false, false, false, false, false, false, false] rfl rfl (any_of HT_.out (by kernel_rfl)) (fun _ _ _ h => h) (Or.inl ⟨by rfl, ?_⟩) ?_ ?_
          rotate_left
          · intro w'
            go_simp
            with_reducible rfl
          rotate_left
          · simp only [Act.put, List.setIfInBounds_toArray, List.set_cons_zero, List.set_cons_succ, i64_w, i32_w]
            rfl
          refine pure_ (i := 5) (N := some 52) (v := ?_) (a' := ?_) #[false, true, true, true, false, true, false, false, false, false, false, false, false, false, false, false] rfl rfl (any_of HT_.out (by kernel_rfl)) (fun _ _ _ h => h) (Or.inl ⟨by rfl, ?_⟩) ?_ ?_
          rotate_left
          · intro w'
            go_simp
            with_reducible rfl
          rotate_left
          · simp only [Act.put, List.setIfInBounds_toArray, List.set_cons_zero, List.set_cons_succ, i64_w, i32_w]
            rfl
          refine pure_ (i := 6) (N := some 53) (v := ?_) (a' := ?_) #[false, true, true, true, false, true, true, false, false, false, false, false, false, false, false, false] rfl rfl (any_of HT_.out (by kernel_rfl)) (fun _ _ _ h => h) (Or.inl ⟨by rfl, ?_⟩) ?_ ?_
          rotate_left
          · intro w'
            go_simp
            with_reducible rfl
          rotate_left
          · simp only [Act.put, List.setIfInBounds_toArray, List.set_cons_zero, List.set_cons_succ, i64_w, i32_w]
            rfl
          refine pure_ (i := 7) (N := some 54) (v := ?_) (a' := ?_) #[false, true, true, true, false, true, true, true, false, false, false, false, false, false, false, false] rfl rfl (any_of HT_.out (by kernel_rfl)) (fun _ _ _ h => h) (Or.inl ⟨by rfl, ?_⟩) ?_ ?_
          rotate_left
          · intro w'
            go_simp
            with_reducible rfl
          rotate_left
          · simp only [Act.put, List.setIfInBounds_toArray, List.set_cons_zero, List.set_cons_succ, i64_w, i32_w]
            rfl
          refine pure_ (i := 11) (N := some 58) (v := ?_) (a' := ?_) #[false, true, true, true, false, true, true, true, false, false, false, true, false, false, false, false] rfl rfl (any_of HT_.out (by kernel_rfl)) (fun _ _ _ h => h) (Or.inl ⟨by rfl, ?_⟩) ?_ ?_
          rotate_left
          · intro w'
            go_simp
            with_reducible rfl
          rotate_left
          · simp only [Act.put, List.setIfInBounds_toArray, List.set_cons_zero, List.set_cons_succ, i64_w, i32_w]
            rfl
          refine pure_ (i := 12) (N := some 59) (v := ?_) (a' := ?_) #[false, true, true, true, false, true, true, true, false, false, false, true, true, false, false, false] rfl rfl (any_of HT_.out (by kernel_rfl)) (fun _ _ _ h => h) (Or.inl ⟨by rfl, ?_⟩) ?_ ?_
          rotate_left
          · intro w'
            go_simp
            with_reducible rfl
          rotate_left
          · simp only [Act.put, List.setIfInBounds_toArray, List.set_cons_zero, List.set_cons_succ, i64_w, i32_w]
            rfl
          refine pure_ (i := 13) (N := some 60) (v := ?_) (a' := ?_) #[false, true, true, true, false, true, true, true, false, false, false, true, true, true, false, false] rfl rfl (any_of HT_.out (by kernel_rfl)) (fun _ _ _ h => h) (Or.inl ⟨by rfl, ?_⟩) ?_ ?_
          rotate_left
          · intro w'
            go_simp
            with_reducible rfl
          rotate_left
          · simp only [Act.put, List.setIfInBounds_toArray, List.set_cons_zero, List.set_cons_succ, i64_w, i32_w]
            rfl
          refine take_ (i := 8) (N := some 55) (v := ?_) (a' := ?_) #[false, true, true, true, false, true, true, true, true, false, false, true, true, true, false, false] rfl rfl (take_ofW HT_.out HW_.out (by kernel_rfl)) (fun _ _ _ h => h) (Or.inl ⟨by rfl, ?_⟩) hHeld ?_ ?_
          rotate_left
          · intro w' s0
            go_simp
            with_reducible rfl
          rotate_left
          · simp only [Act.put, List.setIfInBounds_toArray, List.set_cons_zero, List.set_cons_succ, i64_w, i32_w]
            rfl
          refine two_ (i := 0) (j := 9) (Ni := some 47) (Nj := some 56) #[true, true, true, true, false, true, true, true, true, false, false, true, true, true, false, false] #[false, true, true, true, false, true, true, true, true, true, false, true, true, true, false, false] rfl rfl rfl rfl (two_of HT_.out (by kernel_rfl)) (by decide) (by decide) (fun K hK => ?_) (fun K hK => ?_)
          · refine Kd.R_lit_step (Kd.int .i64) (w0 := w) w.heap.size 3 (by rfl) (N := 47) rfl (xs := ([] : List Int)) (inner := []) (ok := fun k_ => SZ ≤ k_) (okp := fun _ => False) (by go_simp; done) (Reps.none _ _) (fun _ hk => hk.elim) HSZ.out HB.out HB.out.size (by simp) ?_
            intro va w31 hr hb_ hg_ hat_
            replace HOU := Aside0.mk (Kd.R_grown HOU.out hg_ (fun _ _ hk => by cases hk))
            replace HSZ := Aside0.mk (Nat.le_trans HSZ.out hg_.size)
            replace HB := Aside0.mk hb_
            have Ha := Aside0.mk hr
            clear hr hb_ hg_ hat_
            refine hK.out _ _ ((HB.out.cell (World.block_lt_of_cell? w _ hx0)).trans hx0) (fun hHeld => ?_)
            clear hK K
            refine norm_ (a' := ?_) ?_ ?_
            rotate_left
            · show Act.put _ (some 47) _ = _
              simp only [Act.put, List.setIfInBounds_toArray, List.set_cons_zero, List.set_cons_succ, i64_w, i32_w]
              rfl
            refine two_ (i := 4) (j := 9) (Ni := some 51) (Nj := some 56) #[true, true, true, true, true, true, true, true, true, false, false, true, true, true, false, false] #[true, true, true, true, false, true, true, true, true, true, false, true, true, true, false, false] rfl rfl rfl rfl (two_of HT_.out (by kernel_rfl)) (by decide) (by decide) (fun K hK => ?_) (fun K hK => ?_)
            · have HSZ0 := HSZ
              have Ha2 := Aside0.mk (Kd.R_mono (ok' := fun k_ => SZ ≤ k_ ∨ w31.heap.size ≤ k_) Ha.out (fun k_ hk_ => .inl hk_))
              refine Kd.R_append_rows_step (Kd.int .i64) (w0 := w) w.heap.size (by rfl) (.tmp 47) (.tmp 50) 37 3 (.int .i64 0) 8 rfl Try.underlying37 info3 rfl (by decide) (by omega) _ _ _ _ _ _ _ (fun _ => False) rfl rfl Ha2.out ((R_ctake HOU.out hjl)) (fun _ _ h => h) (fun _ h => h.elim) (fun k_ hk_ => .inr hk_) HB.out HB.out.size (by simp only [List.length_nil]; omega) ?_
              intro vb w32 hr hb_ hg_ hat_
              rw [List.nil_append] at hr
              replace HOU := Aside0.mk (Kd.R_grown HOU.out hg_ (fun k_ hk_ e_ => Nat.not_lt.2 (Ha.out.1 k_ e_.symm) hk_))
              replace HSZ := Aside0.mk (Nat.le_trans HSZ.out hg_.size)
              replace HB := Aside0.mk hb_
              have Hb := Aside0.mk hr
              clear hr hb_ hg_ hat_
              replace Hb := Aside0.mk (Kd.R_mono (ok' := fun k_ => SZ ≤ k_) Hb.out (fun k_ hk_ => hk_.elim id (fun h_ => Nat.le_trans HSZ0.out h_)))
              clear Ha Ha2 HSZ0
              refine hK.out _ _ ((HB.out.cell (World.block_lt_of_cell? w _ hx0)).trans hx0) (fun hHeld => ?_)
              clear hK K
              refine norm_ (a' := ?_) ?_ ?_
              rotate_left
              · show Act.put _ (some 51) _ = _
                simp only [Act.put, List.setIfInBounds_toArray, List.set_cons_zero, List.set_cons_succ, i64_w, i32_w]
                rfl
              refine one_ (i := 9) (N := some 56) #[true, true, true, true, true, true, true, true, true, true, false, true, true, true, false, false] rfl rfl (one_of HT_.out (by kernel_rfl)) (by decide) (fun K hK => ?_)
              refine Kd.R_lit_step (Kd.int .i64) (w0 := w) w.heap.size 3 (by rfl) (N := 56) rfl (xs := ([x] : List Int)) (inner := [.int .i64 x]) (ok := fun _ => True) (okp := fun _ => False) (by go_simp; done) (Kd.reps_scalar [x]) (fun _ hk => hk.elim) trivial HB.out HB.out.size (by simp) ?_
              intro vc w33 hr hb_ hg_ hat_
              replace HOU := Aside0.mk (Kd.R_grown HOU.out hg_ (fun _ _ hk => by cases hk))
              replace Hb := Aside0.mk (Kd.R_grown Hb.out hg_ (fun _ _ hk => by cases hk))
              replace HSZ := Aside0.mk (Nat.le_trans HSZ.out hg_.size)
              replace HB := Aside0.mk hb_
              have Hc := Aside0.mk hr
              clear hr hb_ hg_ hat_
              refine hK.out _ _ ((HB.out.cell (World.block_lt_of_cell? w _ hx0)).trans hx0) (fun hHeld => ?_)
              clear hK K
              refine norm_ (a' := ?_) ?_ ?_
              rotate_left
              · show Act.put _ (some 56) _ = _
                simp only [Act.put, List.setIfInBounds_toArray, List.set_cons_zero, List.set_cons_succ, i64_w, i32_w]
                rfl
              obtain ⟨Ac_, cc_, ec_⟩ := Kd.R_slice Hc.out
              subst ec_
              replace Hb := Aside0.mk (Kd.R_mono (ok' := fun k_ => SZ ≤ k_ ∨ w33.heap.size ≤ k_) Hb.out (fun k_ hk_ => .inl hk_))
              refine one_ (i := 10) (N := some 57) #[true, true, true, true, true, true, true, true, true, true, true, true, true, true, false, false] rfl rfl (one_of HT_.out (by kernel_rfl)) (by decide) (fun K hK => ?_)
              refine Kd.R_append_rows_step (Kd.int .i64) (w0 := w) w.heap.size (by rfl) (.tmp 51) (.tmp 56) 37 3 (.int .i64 0) 8 rfl Try.underlying37 info3 rfl (by decide) (by omega) _ _ _ _ _ _ _ (fun _ => False) rfl rfl Hb.out ((Kd.R_reads' Hc.out).2.2) (fun _ _ h => h) (fun _ h => h.elim) (fun k_ hk_ => .inr hk_) HB.out HB.out.size (by simp only [List.length_take, List.length_cons, List.length_nil]; omega) ?_
              intro vd w37 hr hb_ hg_ hat_
              replace HOU := Aside0.mk (Kd.R_grown HOU.out hg_ (fun k_ hk_ e_ => (Hb.out.1 k_ e_.symm).elim (fun h_ => Nat.not_lt.2 h_ hk_) (fun h_ => Nat.not_lt.2 (Nat.le_trans HSZ.out h_) hk_)))
              replace HSZ := Aside0.mk (Nat.le_trans HSZ.out hg_.size)
              replace HB := Aside0.mk hb_
              have Hd := Aside0.mk hr
              clear hr hb_ hg_ hat_
              clear Hb Hc
              refine hK.out _ _ ((HB.out.cell (World.block_lt_of_cell? w _ hx0)).trans hx0) (fun hHeld => ?_)
              clear hK K
              refine norm_ (a' := ?_) ?_ ?_
              rotate_left
              · show Act.put _ (some 57) _ = _
                simp only [Act.put, List.setIfInBounds_toArray, List.set_cons_zero, List.set_cons_succ, i64_w, i32_w]
                rfl
              replace Hd := Aside0.mk (Kd.R_mono (ok' := fun k_ => True) Hd.out (fun k_ hk_ => trivial))
              refine one_ (i := 14) (N := some 61) #[true, true, true, true, true, true, true, true, true, true, true, true, true, true, true, false] rfl rfl (one_of HT_.out (by kernel_rfl)) (by decide) (fun K hK => ?_)
              refine Kd.R_append_rows_step (Kd.int .i64) (w0 := w) w.heap.size (by rfl) (.tmp 57) (.tmp 60) 37 3 (.int .i64 0) 8 rfl Try.underlying37 info3 rfl (by decide) (by omega) _ _ _ _ _ _ _ (fun _ => False) rfl rfl Hd.out ((R_cdrop HOU.out hjl (R_cap HOU.out))) (fun _ _ h => h) (fun _ h => h.elim) (fun k_ hk_ => trivial) HB.out HB.out.size (by simp only [List.length_append, List.length_take, List.length_cons, List.length_nil]; omega) ?_
              intro ve w38 hr hb_ hg_ hat_
              replace HSZ := Aside0.mk (Nat.le_trans HSZ.out hg_.size)
              replace HB := Aside0.mk hb_
              have He := Aside0.mk hr
              clear hr hb_ hg_ hat_
              clear Hd HOU HSZ SZ
              refine hK.out _ _ ((HB.out.cell (World.block_lt_of_cell? w _ hx0)).trans hx0) (fun hHeld => ?_)
              clear hK K
              refine norm_ (a' := ?_) ?_ ?_
              rotate_left
              · show Act.put _ (some 61) _ = _
                simp only [Act.put, List.setIfInBounds_toArray, List.set_cons_zero, List.set_cons_succ, i64_w, i32_w]
                rfl
              refine pure_ (i := 15) (N := some 4) (v := ?_) (a' := ?_) #[true, true, true, true, true, true, true, true, true, true, true, true, true, true, true, true] rfl rfl (any_of HT_.out (by kernel_rfl)) (fun _ _ _ h => h) (Or.inl ⟨by rfl, ?_⟩) ?_ ?_
              rotate_left
              · intro w'
                go_simp
                with_reducible rfl
              rotate_left
              · simp only [Act.put, List.setIfInBounds_toArray, List.set_cons_zero, List.set_cons_succ, i64_w, i32_w]
                rfl
              refine done_ (done_of HT_.out (by kernel_rfl)) ?_
              clear hHeld HT_ HW_
              have hl9 : (insR x ys).length ≤ kk + 1 := Nat.le_trans (insR_len x ys) (by omega)
              have hHe := He.out
              rw [← HI.out] at hHe
              obtain ⟨A9, c9, e9⟩ := Kd.R_slice hHe
              subst e9
              obtain ⟨a9, h9, -⟩ := Kd.at_int (Kd.R_reads' hHe).2.2 0 (Int.le_refl _) (by rw [HI.out]; simp only [List.length_append, List.length_cons, List.length_nil]; omega)
              subst h9
              have HO := Aside0.mk hHe
              have HY9 : Aside0 (∀ y_ ∈ insR x ys, inR y_) := ⟨insR_in HXI.out HYI.out⟩
              clear hHe He HI
              generalize (if c = jj then some ad else some (ad.add jj)) = A60_
              go_wp2
              go_roundg (l0.length - (kk + 1))
              case measure => omega
              case rel => exact ⟨kk + 1, a9, c9, insR x ys, by go_num, by omega, by omega, rfl, hl9, HY9, HRES, HO, HB⟩
            · replace Ha := Aside0.mk (Kd.R_bound Ha.out)
              obtain ⟨L, hL⟩ : ∃ s, w31.heap.size = s := ⟨_, rfl⟩
              have HL0 := Aside0.mk hL
              refine Kd.R_lit_step (Kd.int .i64) (w0 := w) w.heap.size 3 (by rfl) (N := 56) rfl (xs := ([x] : List Int)) (inner := [.int .i64 x]) (ok := fun k_ => w31.heap.size ≤ k_) (okp := fun _ => False) (by go_simp; done) (Kd.reps_scalar [x]) (fun _ hk => hk.elim) (Nat.le_refl _) HB.out HB.out.size (by simp) ?_
              intro vc w32 hr hb_ hg_ hat_
              replace HOU := Aside0.mk (Kd.R_grown HOU.out hg_ (fun _ _ hk => by cases hk))
              replace Ha := Aside0.mk (Kd.R_grown Ha.out hg_ (fun _ _ hk => by cases hk))
              replace HSZ := Aside0.mk (Nat.le_trans HSZ.out hg_.size)
              replace HB := Aside0.mk hb_
              have Hc := Aside0.mk hr
              clear hr hb_ hg_ hat_
              clear HL0 hL L
              refine hK.out _ _ ((HB.out.cell (World.block_lt_of_cell? w _ hx0)).trans hx0) (fun hHeld => ?_)
              clear hK K
              refine norm_ (a' := ?_) ?_ ?_
              rotate_left
              · show Act.put _ (some 56) _ = _
                simp only [Act.put, List.setIfInBounds_toArray, List.set_cons_zero, List.set_cons_succ, i64_w, i32_w]
                rfl
              have HSZ0 := HSZ
              have Ha2 := Aside0.mk (Kd.R_mono (ok' := fun k_ => SZ ≤ k_ ∨ w32.heap.size ≤ k_) Ha.out (fun k_ hk_ => .inl hk_.1))
              refine one_ (i := 4) (N := some 51) #[true, true, true, true, true, true, true, true, true, true, false, true, true, true, false, false] rfl rfl (one_of HT_.out (by kernel_rfl)) (by decide) (fun K hK => ?_)
              refine Kd.R_append_rows_step (Kd.int .i64) (w0 := w) w.heap.size (by rfl) (.tmp 47) (.tmp 50) 37 3 (.int .i64 0) 8 rfl Try.underlying37 info3 rfl (by decide) (by omega) _ _ _ _ _ _ _ (fun _ => False) rfl rfl Ha2.out ((R_ctake HOU.out hjl)) (fun _ _ h => h) (fun _ h => h.elim) (fun k_ hk_ => .inr hk_) HB.out HB.out.size (by simp only [List.length_nil]; omega) ?_
              intro vb w33 hr hb_ hg_ hat_
              rw [List.nil_append] at hr
              replace HOU := Aside0.mk (Kd.R_grown HOU.out hg_ (fun k_ hk_ e_ => Nat.not_lt.2 (Ha.out.1 k_ e_.symm).1 hk_))
              replace Hc := Aside0.mk (Kd.R_grown Hc.out hg_ (fun k_ hk_ e_ => Nat.not_lt.2 hk_ (Ha.out.1 k_ e_.symm).2.2.1))
              replace HSZ := Aside0.mk (Nat.le_trans HSZ.out hg_.size)
              replace HB := Aside0.mk hb_
              have Hb := Aside0.mk hr
              clear hr hb_ hg_ hat_
              replace Hb := Aside0.mk (Kd.R_mono (ok' := fun k_ => SZ ≤ k_) Hb.out (fun k_ hk_ => hk_.elim id (fun h_ => Nat.le_trans HSZ0.out h_)))
              clear Ha Ha2 HSZ0
              refine hK.out _ _ ((HB.out.cell (World.block_lt_of_cell? w _ hx0)).trans hx0) (fun hHeld => ?_)
              clear hK K
              refine norm_ (a' := ?_) ?_ ?_
              rotate_left
              · show Act.put _ (some 51) _ = _
                simp only [Act.put, List.setIfInBounds_toArray, List.set_cons_zero, List.set_cons_succ, i64_w, i32_w]
                rfl
              obtain ⟨Ac_, cc_, ec_⟩ := Kd.R_slice Hc.out
              subst ec_
              replace Hb := Aside0.mk (Kd.R_mono (ok' := fun k_ => SZ ≤ k_ ∨ w33.heap.size ≤ k_) Hb.out (fun k_ hk_ => .inl hk_))
              refine one_ (i := 10) (N := some 57) #[true, true, true, true, true, true, true, true, true, true, true, true, true, true, false, false] rfl rfl (one_of HT_.out (by kernel_rfl)) (by decide) (fun K hK => ?_)
              refine Kd.R_append_rows_step (Kd.int .i64) (w0 := w) w.heap.size (by rfl) (.tmp 51) (.tmp 56) 37 3 (.int .i64 0) 8 rfl Try.underlying37 info3 rfl (by decide) (by omega) _ _ _ _ _ _ _ (fun _ => False) rfl rfl Hb.out ((Kd.R_reads' Hc.out).2.2) (fun _ _ h => h) (fun _ h => h.elim) (fun k_ hk_ => .inr hk_) HB.out HB.out.size (by simp only [List.length_take, List.length_cons, List.length_nil]; omega) ?_
              intro vd w37 hr hb_ hg_ hat_
              replace HOU := Aside0.mk (Kd.R_grown HOU.out hg_ (fun k_ hk_ e_ => (Hb.out.1 k_ e_.symm).elim (fun h_ => Nat.not_lt.2 h_ hk_) (fun h_ => Nat.not_lt.2 (Nat.le_trans HSZ.out h_) hk_)))
              replace HSZ := Aside0.mk (Nat.le_trans HSZ.out hg_.size)
              replace HB := Aside0.mk hb_
              have Hd := Aside0.mk hr
              clear hr hb_ hg_ hat_
              clear Hb Hc
              refine hK.out _ _ ((HB.out.cell (World.block_lt_of_cell? w _ hx0)).trans hx0) (fun hHeld => ?_)
              clear hK K
              refine norm_ (a' := ?_) ?_ ?_
              rotate_left
              · show Act.put _ (some 57) _ = _
                simp only [Act.put, List.setIfInBounds_toArray, List.set_cons_zero, List.set_cons_succ, i64_w, i32_w]
                rfl
              replace Hd := Aside0.mk (Kd.R_mono (ok' := fun k_ => True) Hd.out (fun k_ hk_ => trivial))
              refine one_ (i := 14) (N := some 61) #[true, true, true, true, true, true, true, true, true, true, true, true, true, true, true, false] rfl rfl (one_of HT_.out (by kernel_rfl)) (by decide) (fun K hK => ?_)
              refine Kd.R_append_rows_step (Kd.int .i64) (w0 := w) w.heap.size (by rfl) (.tmp 57) (.tmp 60) 37 3 (.int .i64 0) 8 rfl Try.underlying37 info3 rfl (by decide) (by omega) _ _ _ _ _ _ _ (fun _ => False) rfl rfl Hd.out ((R_cdrop HOU.out hjl (R_cap HOU.out))) (fun _ _ h => h) (fun _ h => h.elim) (fun k_ hk_ => trivial) HB.out HB.out.size (by simp only [List.length_append, List.length_take, List.length_cons, List.length_nil]; omega) ?_
              intro ve w38 hr hb_ hg_ hat_
              replace HSZ := Aside0.mk (Nat.le_trans HSZ.out hg_.size)
              replace HB := Aside0.mk hb_
              have He := Aside0.mk hr
              clear hr hb_ hg_ hat_
              clear Hd HOU HSZ SZ
              refine hK.out _ _ ((HB.out.cell (World.block_lt_of_cell? w _ hx0)).trans hx0) (fun hHeld => ?_)
              clear hK K
              refine norm_ (a' := ?_) ?_ ?_
              rotate_left
              · show Act.put _ (some 61) _ = _
                simp only [Act.put, List.setIfInBounds_toArray, List.set_cons_zero, List.set_cons_succ, i64_w, i32_w]
                rfl
              refine pure_ (i := 15) (N := some 4) (v := ?_) (a' := ?_) #[true, true, true, true, true, true, true, true, true, true, true, true, true, true, true, true] rfl rfl (any_of HT_.out (by kernel_rfl)) (fun _ _ _ h => h) (Or.inl ⟨by rfl, ?_⟩) ?_ ?_
              rotate_left
              · intro w'
                go_simp
                with_reducible rfl
              rotate_left
              · simp only [Act.put, List.setIfInBounds_toArray, List.set_cons_zero, List.set_cons_succ, i64_w, i32_w]
                rfl
              refine done_ (done_of HT_.out (by kernel_rfl)) ?_
              clear hHeld HT_ HW_
              have hl9 : (insR x ys).length ≤ kk + 1 := Nat.le_trans (insR_len x ys) (by omega)
              have hHe := He.out
              rw [← HI.out] at hHe
              obtain ⟨A9, c9, e9⟩ := Kd.R_slice hHe
              subst e9
              obtain ⟨a9, h9, -⟩ := Kd.at_int (Kd.R_reads' hHe).2.2 0 (Int.le_refl _) (by rw [HI.out]; simp only [List.length_append, List.length_cons, List.length_nil]; omega)
              subst h9
              have HO := Aside0.mk hHe
              have HY9 : Aside0 (∀ y_ ∈ insR x ys, inR y_) := ⟨insR_in HXI.out HYI.out⟩
              clear hHe He HI
              generalize (if c = jj then some ad else some (ad.add jj)) = A60_
              go_wp2
              go_roundg (l0.length - (kk + 1))
              case measure => omega
              case rel => exact ⟨kk + 1, a9, c9, insR x ys, by go_num, by omega, by omega, rfl, hl9, HY9, HRES, HO, HB⟩
          · refine Kd.R_lit_step (Kd.int .i64) (w0 := w) w.heap.size 3 (by rfl) (N := 56) rfl (xs := ([x] : List Int)) (inner := [.int .i64 x]) (ok := fun _ => True) (okp := fun _ => False) (by go_simp; done) (Kd.reps_scalar [x]) (fun _ hk => hk.elim) trivial HB.out HB.out.size (by simp) ?_
            intro vc w31 hr hb_ hg_ hat_
            replace HOU := Aside0.mk (Kd.R_grown HOU.out hg_ (fun _ _ hk => by cases hk))
            replace HSZ := Aside0.mk (Nat.le_trans HSZ.out hg_.size)
            replace HB := Aside0.mk hb_
            have Hc := Aside0.mk hr
            clear hr hb_ hg_ hat_
            refine hK.out _ _ ((HB.out.cell (World.block_lt_of_cell? w _ hx0)).trans hx0) (fun hHeld => ?_)
            clear hK K
            refine norm_ (a' := ?_) ?_ ?_
            rotate_left
            · show Act.put _ (some 56) _ = _
              simp only [Act.put, List.setIfInBounds_toArray, List.set_cons_zero, List.set_cons_succ, i64_w, i32_w]
              rfl
            replace Hc := Aside0.mk (Kd.R_bound Hc.out)
            refine one_ (i := 0) (N := some 47) #[true, true, true, true, false, true, true, true, true, true, false, true, true, true, false, false] rfl rfl (one_of HT_.out (by kernel_rfl)) (by decide) (fun K hK => ?_)
            refine Kd.R_lit_step (Kd.int .i64) (w0 := w) w.heap.size 3 (by rfl) (N := 47) rfl (xs := ([] : List Int)) (inner := []) (ok := fun k_ => w31.heap.size ≤ k_) (okp := fun _ => False) (by go_simp; done) (Reps.none _ _) (fun _ hk => hk.elim) (Nat.le_refl _) HB.out HB.out.size (by simp) ?_
            intro va w32 hr hb_ hg_ hat_
            replace HOU := Aside0.mk (Kd.R_grown HOU.out hg_ (fun _ _ hk => by cases hk))
            replace Hc := Aside0.mk (Kd.R_grown Hc.out hg_ (fun _ _ hk => by cases hk))
            have HSZ1 := HSZ
            replace HSZ := Aside0.mk (Nat.le_trans HSZ.out hg_.size)
            replace HB := Aside0.mk hb_
            have Ha := Aside0.mk hr
            clear hr hb_ hg_ hat_
            refine hK.out _ _ ((HB.out.cell (World.block_lt_of_cell? w _ hx0)).trans hx0) (fun hHeld => ?_)
            clear hK K
            refine norm_ (a' := ?_) ?_ ?_
            rotate_left
            · show Act.put _ (some 47) _ = _
              simp only [Act.put, List.setIfInBounds_toArray, List.set_cons_zero, List.set_cons_succ, i64_w, i32_w]
              rfl
            have HSZ0 := HSZ
            have Ha2 := Aside0.mk (Kd.R_mono (ok' := fun k_ => SZ ≤ k_ ∨ w32.heap.size ≤ k_) Ha.out (fun k_ hk_ => .inl (Nat.le_trans HSZ1.out hk_)))
            refine one_ (i := 4) (N := some 51) #[true, true, true, true, true, true, true, true, true, true, false, true, true, true, false, false] rfl rfl (one_of HT_.out (by kernel_rfl)) (by decide) (fun K hK => ?_)
            refine Kd.R_append_rows_step (Kd.int .i64) (w0 := w) w.heap.size (by rfl) (.tmp 47) (.tmp 50) 37 3 (.int .i64 0) 8 rfl Try.underlying37 info3 rfl (by decide) (by omega) _ _ _ _ _ _ _ (fun _ => False) rfl rfl Ha2.out ((R_ctake HOU.out hjl)) (fun _ _ h => h) (fun _ h => h.elim) (fun k_ hk_ => .inr hk_) HB.out HB.out.size (by simp only [List.length_nil]; omega) ?_
            intro vb w33 hr hb_ hg_ hat_
            rw [List.nil_append] at hr
            replace HOU := Aside0.mk (Kd.R_grown HOU.out hg_ (fun k_ hk_ e_ => Nat.not_lt.2 (Nat.le_trans HSZ1.out (Ha.out.1 k_ e_.symm)) hk_))
            replace Hc := Aside0.mk (Kd.R_grown Hc.out hg_ (fun k_ hk_ e_ => Nat.not_lt.2 (Ha.out.1 k_ e_.symm) hk_.2.2.1))
            replace HSZ := Aside0.mk (Nat.le_trans HSZ.out hg_.size)
            replace HB := Aside0.mk hb_
            have Hb := Aside0.mk hr
            clear hr hb_ hg_ hat_
            replace Hb := Aside0.mk (Kd.R_mono (ok' := fun k_ => SZ ≤ k_) Hb.out (fun k_ hk_ => hk_.elim id (fun h_ => Nat.le_trans HSZ0.out h_)))
            clear Ha Ha2 HSZ0 HSZ1
            refine hK.out _ _ ((HB.out.cell (World.block_lt_of_cell? w _ hx0)).trans hx0) (fun hHeld => ?_)
            clear hK K
            refine norm_ (a' := ?_) ?_ ?_
            rotate_left
            · show Act.put _ (some 51) _ = _
              simp only [Act.put, List.setIfInBounds_toArray, List.set_cons_zero, List.set_cons_succ, i64_w, i32_w]
              rfl
            obtain ⟨Ac_, cc_, ec_⟩ := Kd.R_slice Hc.out
            subst ec_
            replace Hb := Aside0.mk (Kd.R_mono (ok' := fun k_ => SZ ≤ k_ ∨ w33.heap.size ≤ k_) Hb.out (fun k_ hk_ => .inl hk_))
            refine one_ (i := 10) (N := some 57) #[true, true, true, true, true, true, true, true, true, true, true, true, true, true, false, false] rfl rfl (one_of HT_.out (by kernel_rfl)) (by decide) (fun K hK => ?_)
            refine Kd.R_append_rows_step (Kd.int .i64) (w0 := w) w.heap.size (by rfl) (.tmp 51) (.tmp 56) 37 3 (.int .i64 0) 8 rfl Try.underlying37 info3 rfl (by decide) (by omega) _ _ _ _ _ _ _ (fun _ => False) rfl rfl Hb.out ((Kd.R_reads' Hc.out).2.2) (fun _ _ h => h) (fun _ h => h.elim) (fun k_ hk_ => .inr hk_) HB.out HB.out.size (by simp only [List.length_take, List.length_cons, List.length_nil]; omega) ?_
            intro vd w37 hr hb_ hg_ hat_
            replace HOU := Aside0.mk (Kd.R_grown HOU.out hg_ (fun k_ hk_ e_ => (Hb.out.1 k_ e_.symm).elim (fun h_ => Nat.not_lt.2 h_ hk_) (fun h_ => Nat.not_lt.2 (Nat.le_trans HSZ.out h_) hk_)))
            replace HSZ := Aside0.mk (Nat.le_trans HSZ.out hg_.size)
            replace HB := Aside0.mk hb_
            have Hd := Aside0.mk hr
            clear hr hb_ hg_ hat_
            clear Hb Hc
            refine hK.out _ _ ((HB.out.cell (World.block_lt_of_cell? w _ hx0)).trans hx0) (fun hHeld => ?_)
            clear hK K
            refine norm_ (a' := ?_) ?_ ?_
            rotate_left
            · show Act.put _ (some 57) _ = _
              simp only [Act.put, List.setIfInBounds_toArray, List.set_cons_zero, List.set_cons_succ, i64_w, i32_w]
              rfl
            replace Hd := Aside0.mk (Kd.R_mono (ok' := fun k_ => True) Hd.out (fun k_ hk_ => trivial))
            refine one_ (i := 14) (N := some 61) #[true, true, true, true, true, true, true, true, true, true, true, true, true, true, true, false] rfl rfl (one_of HT_.out (by kernel_rfl)) (by decide) (fun K hK => ?_)
            refine Kd.R_append_rows_step (Kd.int .i64) (w0 := w) w.heap.size (by rfl) (.tmp 57) (.tmp 60) 37 3 (.int .i64 0) 8 rfl Try.underlying37 info3 rfl (by decide) (by omega) _ _ _ _ _ _ _ (fun _ => False) rfl rfl Hd.out ((R_cdrop HOU.out hjl (R_cap HOU.out))) (fun _ _ h => h) (fun _ h => h.elim) (fun k_ hk_ => trivial) HB.out HB.out.size (by simp only [List.length_append, List.length_take, List.length_cons, List.length_nil]; omega) ?_
            intro ve w38 hr hb_ hg_ hat_
            replace HSZ := Aside0.mk (Nat.le_trans HSZ.out hg_.size)
            replace HB := Aside0.mk hb_
            have He := Aside0.mk hr
            clear hr hb_ hg_ hat_
            clear Hd HOU HSZ SZ
            refine hK.out _ _ ((HB.out.cell (World.block_lt_of_cell? w _ hx0)).trans hx0) (fun hHeld => ?_)
            clear hK K
            refine norm_ (a' := ?_) ?_ ?_
            rotate_left
            · show Act.put _ (some 61) _ = _
              simp only [Act.put, List.setIfInBounds_toArray, List.set_cons_zero, List.set_cons_succ, i64_w, i32_w]
              rfl
            refine pure_ (i := 15) (N := some 4) (v := ?_) (a' := ?_) #[true, true, true, true, true, true, true, true, true, true, true, true, true, true, true, true] rfl rfl (any_of HT_.out (by kernel_rfl)) (fun _ _ _ h => h) (Or.inl ⟨by rfl, ?_⟩) ?_ ?_
            rotate_left
            · intro w'
              go_simp
              with_reducible rfl
            rotate_left
            · simp only [Act.put, List.setIfInBounds_toArray, List.set_cons_zero, List.set_cons_succ, i64_w, i32_w]
              rfl
            refine done_ (done_of HT_.out (by kernel_rfl)) ?_
            clear hHeld HT_ HW_
            have hl9 : (insR x ys).length ≤ kk + 1 := Nat.le_trans (insR_len x ys) (by omega)
            have hHe := He.out
            rw [← HI.out] at hHe
            obtain ⟨A9, c9, e9⟩ := Kd.R_slice hHe
            subst e9
            obtain ⟨a9, h9, -⟩ := Kd.at_int (Kd.R_reads' hHe).2.2 0 (Int.le_refl _) (by rw [HI.out]; simp only [List.length_append, List.length_cons, List.length_nil]; omega)
            subst h9
            have HO := Aside0.mk hHe
            have HY9 : Aside0 (∀ y_ ∈ insR x ys, inR y_) := ⟨insR_in HXI.out HYI.out⟩
            clear hHe He HI
            generalize (if c = jj then some ad else some (ad.add jj)) = A60_
            go_wp2
            go_roundg (l0.length - (kk + 1))
            case measure => omega
            case rel => exact ⟨kk + 1, a9, c9, insR x ys, by go_num, by omega, by omega, rfl, hl9, HY9, HRES, HO, HB⟩
    · obtain rfl : kk = l0.length := by omega
      have hltz : ¬ (l0.length : Int) < (l0.length : Int) := by omega
      have hres := HRES.out
      rw [List.drop_length, insAll] at hres
      subst hres
      clear HRES HA HIN
      have HO0 : Aside0 (oppB (ys.drop (1 - 1)) = oppB ys) := ⟨rfl⟩
      go_wp2
      go_loopg [7] ys.length (fun gg2 v7 wr2 => ∃ ii : Nat, v7 = .int .i64 ii ∧ 1 ≤ ii ∧ ii ≤ ys.length + 1 ∧ ys.length - ii ≤ gg2 ∧ Aside0 (oppB (ys.drop (ii - 1)) = oppB ys) ∧ Aside0 (Kd.R (Kd.int .i64) 3 wr2 w.heap.size (fun _ => True) (.slice (some ad) ys.length c) ys) ∧ Aside0 (Below w.heap.size w wr2))
      case atStart => exact ⟨1, rfl, Nat.le_refl _, by omega, by omega, HO0, HO, HB⟩
      case round =>
        clear HO0 HO HB
        obtain ⟨ii, rfl, hi1, hi2, hg2, HP, HO, HB⟩ := hrel
        obtain ⟨pv, hpv⟩ : ∃ pv, ii = pv + 1 := ⟨ii - 1, by omega⟩
        have hP := HP.out
        rw [show ii - 1 = pv by omega] at hP
        by_cases hil : ii < ys.length
        · have hiz : (ii : Int) < (ys.length : Int) := by omega
          have hi0 : (0 : Int) ≤ (ii : Int) := Int.natCast_nonneg _
          have hp0 : (0 : Int) ≤ (pv : Int) := Int.natCast_nonneg _
          have hpz : (pv : Int) < (ys.length : Int) := by omega
          have hpl : pv < ys.length := by omega
          have ews : IntKind.i64.wrap ((ii : Int) - 1) = (pv : Int) := by rw [show (ii : Int) - 1 = (pv : Int) by omega]; exact IntWalk.i64_in _ ⟨by omega, by omega⟩
          have ewi : IntKind.i64.wrap ((ii : Int) + 1) = ((ii + 1 : Nat) : Int) := IntWalk.i64_in _ ⟨by omega, by omega⟩
          have hCy := (Kd.R_reads' HO.out).2.2
          obtain ⟨ad_, ea_, hy⟩ := Kd.at_int hCy (pv : Int) hp0 hpz
          obtain rfl := Option.some.inj ea_
          obtain ⟨ad_, eb_, hz⟩ := Kd.at_int hCy (ii : Int) hi0 hiz
          obtain rfl := Option.some.inj eb_
          clear ea_ eb_ hCy
          rw [Int.toNat_natCast] at hy hz
          have hrdy : rd ys (pv : Int) = ys[pv] := by unfold rd; simp [List.getD, hpl]
          have hrdz : rd ys (ii : Int) = ys[ii] := by unfold rd; simp [List.getD, hil]
          have hop := oppB_step (l := ys) (j := pv) (by omega)
          simp only [← hpv] at hop
          rw [hP, ← hrdy, ← hrdz] at hop
          have hzi : inR ys[ii] := HYI.out _ (List.getElem_mem hil)
          rw [← hrdz] at hzi
          clear hrdy hrdz hP HP
          generalize rd ys (pv : Int) = y at hy hop
          generalize rd ys (ii : Int) = z at hz hop hzi
          have ewn : IntKind.i64.wrap (-z) = -z := IntWalk.i64_in _ ⟨by unfold inR at hzi; omega, by unfold inR at hzi; omega⟩
          have HOP := Aside0.mk hop
          clear hop hzi
          obtain ⟨b, hb13⟩ : ∃ b, (y == -z) = b := ⟨_, rfl⟩
          clear hpv
          go_upto_region 13 with fail
          have hbdc : ∀ p v, wr.cell? p = some v → wr.drew.cell? p = some v := fun p v h => h
          have hbd := below_drew (Below.refl wr.heap.size wr)
          replace HO := Aside0.mk (Kd.R_below HO.out hbd)
          replace HB := Aside0.mk (HB.out.trans (hbd.mono HB.out.size))
          clear hbd
          replace hy := hbdc _ _ hy
          replace hz := hbdc _ _ hz
          clear hbdc
          generalize hw9 : wr.drew = w40 at *
          refine start_ (n := 11) (S := fun w' => w'.cell? (ad.add pv) = some (.int .i64 y) ∧ w'.cell? (ad.add ii) = some (.int .i64 z)) (ds := []) #[false, false, false, false, false, false, false, false, false, false, false] (by kernel_rfl) rfl rfl (by rw [hw9]; exact ⟨hy, hz⟩) (fun hHeld => ?_)
          refine with_tabW so13_tab so13_bits (fun HT_ HW_ => ?_)
          rw [hw9] at hHeld ⊢
          clear hw9
          refine pure_ (i := 0) (N := some 68) (v := ?_) (a' := ?_) #[true, false, false, false, false, false, false, false, false, false, false] rfl rfl (any_of HT_.out (by kernel_rfl)) (fun _ _ _ h => h) (Or.inl ⟨by rfl, ?_⟩) ?_ ?_
          rotate_left
          · intro w'
            go_simp
            with_reducible rfl
          rotate_left
          · simp only [Act.put, List.setIfInBounds_toArray, List.set_cons_zero, List.set_cons_succ, i64_w, i32_w]
            rfl
          refine pure_ (i := 1) (N := some 69) (v := ?_) (a' := ?_) #[true, true, false, false, false, false, false, false, false, false, false] rfl rfl (any_of HT_.out (by kernel_rfl)) (fun _ _ _ h => h) (Or.inl ⟨by rfl, ?_⟩) ?_ ?_
          rotate_left
          · intro w'
            go_simp
            with_reducible rfl
          rotate_left
          · simp only [Act.put, List.setIfInBounds_toArray, List.set_cons_zero, List.set_cons_succ, i64_w, i32_w]
            rfl
          refine pure_ (i := 2) (N := some 70) (v := ?_) (a' := ?_) #[true, true, true, false, false, false, false, false, false, false, false] rfl rfl (any_of HT_.out (by kernel_rfl)) (fun _ _ _ h => h) (Or.inl ⟨by rfl, ?_⟩) ?_ ?_
          rotate_left
          · intro w'
            go_simp
            with_reducible rfl
          rotate_left
          · simp only [Act.put, List.setIfInBounds_toArray, List.set_cons_zero, List.set_cons_succ, i64_w, i32_w]
            rfl
          refine pure_ (i := 3) (N := some 71) (v := ?_) (a' := ?_) #[true, true, true, true, false, false, false, false, false, false, false] rfl rfl (any_of HT_.out (by kernel_rfl)) (fun _ _ _ h => h) (Or.inl ⟨by rfl, ?_⟩) ?_ ?_
          rotate_left
          · intro w'
            go_simp
            with_reducible rfl
          rotate_left
          · simp only [Act.put, List.setIfInBounds_toArray, List.set_cons_zero, List.set_cons_succ, i64_w, i32_w]
            rfl
          refine pure_ (i := 5) (N := some 73) (v := ?_) (a' := ?_) #[true, true, true, true, false, true, false, false, false, false, false] rfl rfl (any_of HT_.out (by kernel_rfl)) (fun _ _ _ h => h) (Or.inl ⟨by rfl, ?_⟩) ?_ ?_
          rotate_left
          · intro w'
            go_simp
            with_reducible rfl
          rotate_left
          · simp only [Act.put, List.setIfInBounds_toArray, List.set_cons_zero, List.set_cons_succ, i64_w, i32_w]
            rfl
          refine pure_ (i := 6) (N := some 74) (v := ?_) (a' := ?_) #[true, true, true, true, false, true, true, false, false, false, false] rfl rfl (any_of HT_.out (by kernel_rfl)) (fun _ _ _ h => h) (Or.inl ⟨by rfl, ?_⟩) ?_ ?_
          rotate_left
          · intro w'
            go_simp
            with_reducible rfl
          rotate_left
          · simp only [Act.put, List.setIfInBounds_toArray, List.set_cons_zero, List.set_cons_succ, i64_w, i32_w]
            rfl
          refine pure_ (i := 7) (N := some 75) (v := ?_) (a' := ?_) #[true, true, true, true, false, true, true, true, false, false, false] rfl rfl (any_of HT_.out (by kernel_rfl)) (fun _ _ _ h => h) (Or.inl ⟨by rfl, ?_⟩) ?_ ?_
          rotate_left
          · intro w'
            go_simp
            with_reducible rfl
          rotate_left
          · simp only [Act.put, List.setIfInBounds_toArray, List.set_cons_zero, List.set_cons_succ, i64_w, i32_w]
            rfl
          refine take_ (i := 4) (N := some 72) (v := ?_) (a' := ?_) #[true, true, true, true, true, true, true, true, false, false, false] rfl rfl (take_ofW HT_.out HW_.out (by kernel_rfl)) (fun _ _ _ h => h) (Or.inl ⟨by rfl, ?_⟩) hHeld ?_ ?_
          rotate_left
          · rintro w' ⟨s0, s1⟩
            go_simp
            with_reducible rfl
          rotate_left
          · simp only [Act.put, List.setIfInBounds_toArray, List.set_cons_zero, List.set_cons_succ, i64_w, i32_w]
            rfl
          refine take_ (i := 8) (N := some 76) (v := ?_) (a' := ?_) #[true, true, true, true, true, true, true, true, true, false, false] rfl rfl (take_ofW HT_.out HW_.out (by kernel_rfl)) (fun _ _ _ h => h) (Or.inl ⟨by rfl, ?_⟩) hHeld ?_ ?_
          rotate_left
          · rintro w' ⟨s0, s1⟩
            go_simp
            with_reducible rfl
          rotate_left
          · simp only [Act.put, List.setIfInBounds_toArray, List.set_cons_zero, List.set_cons_succ, i64_w, i32_w]
            rfl
          refine pure_ (i := 9) (N := some 77) (v := ?_) (a' := ?_) #[true, true, true, true, true, true, true, true, true, true, false] rfl rfl (any_of HT_.out (by kernel_rfl)) (fun _ _ _ h => h) (Or.inl ⟨by rfl, ?_⟩) ?_ ?_
          rotate_left
          · intro w'
            go_simp
            with_reducible rfl
          rotate_left
          · simp only [Act.put, List.setIfInBounds_toArray, List.set_cons_zero, List.set_cons_succ, i64_w, i32_w]
            rfl
          refine pure_ (i := 10) (N := some 78) (v := ?_) (a' := ?_) #[true, true, true, true, true, true, true, true, true, true, true] rfl rfl (any_of HT_.out (by kernel_rfl)) (fun _ _ _ h => h) (Or.inl ⟨by rfl, ?_⟩) ?_ ?_
          rotate_left
          · intro w'
            go_simp
            with_reducible rfl
          rotate_left
          · simp only [Act.put, List.setIfInBounds_toArray, List.set_cons_zero, List.set_cons_succ, i64_w, i32_w]
            rfl
          refine done_ (done_of HT_.out (by kernel_rfl)) ?_
          clear hHeld HT_ HW_
          have hop := HOP.out
          rw [hb13] at hop
          cases b with
          | true =>
            rw [Bool.true_or] at hop
            have h2 := H2.out
            rw [hop] at h2
            subst h2
            clear HOP hop
            go_wp2
            go_ret2
            exact ⟨_, rfl, HO.out, HB.out⟩
          | false =>
            rw [Bool.false_or] at hop
            have HP : Aside0 (oppB (ys.drop (ii + 1 - 1)) = oppB ys) := ⟨by rw [Nat.add_sub_cancel]; exact hop.symm⟩
            clear HOP hop
            go_wp2
            go_roundg (ys.length - (ii + 1))
            case measure => omega
            case rel => exact ⟨ii + 1, by go_num, by omega, by omega, by omega, HP, HO, HB⟩
        · have hiz : ¬ (ii : Int) < (ys.length : Int) := by omega
          rw [oppB_end (by omega)] at hP
          have h2 := H2.out
          rw [← hP] at h2
          subst h2
          clear hP HP
          go_wp2
          go_ret2
          exact ⟨_, rfl, HO.out, HB.out⟩


end Go.Proofs.Ytelfahcjeldliaa.PFnExactResolve
