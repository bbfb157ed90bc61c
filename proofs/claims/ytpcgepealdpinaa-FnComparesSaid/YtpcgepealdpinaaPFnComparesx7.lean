/- laws.FnCompares, walked on its one good way. Conditions: what its theorem names. -/
import Derived.Test.YtpcgepealdpinaaPFnComparesx4
import Derived.Test.YtpcgepealdpinaaPFnComparesx6
import Derived.Test.YtpcgepealdpinaaPFnComparesx5
import Derived.Test.YtpcgepealdpinaaPFnComparesx3
import Derived.IntWalk
import Derived.Shelf.Abstract
import Derived.Deep.Slices
import Derived.WalkSpells
namespace Go.Proofs.Ytpcgepealdpinaa.PFnCompares
open Go.RowKit Go.Proofs.YtpcgepealdpinaaW.PrintWords Go.Proofs.YtpcgepealdpinaaW.PrintLast Go.Proofs.YtpcgepealdpinaaW.PrintMore
attribute [local go_sem] max2_int min2_int max_two min_two max_three min_three max_four min_four
set_option linter.unusedVariables false
set_option linter.unusedSimpArgs false
theorem V27 {W : World} {b : Nat} {ok : Nat → Prop} {v : Value} {xs : List S27} (h : Kd.V kS27 27 W b ok v xs) : Kd.V k27 27 W b ok v xs := by
  obtain ⟨A, c, e, hl, hF⟩ := h
  exact ⟨A, c, e, hl, kS27_F hF⟩
/-- two rows of the call's own that lie apart -/
def PR (base : Nat) (W : World) (va : Value) (a : List S27) (vb : Value) (b : List S27) : Prop := ∃ SA SB : Nat → Prop, (∀ k, SA k → ¬ SB k) ∧ Kd.R k27 27 W base SA va a ∧ Kd.R k27 27 W base SB vb b
theorem PR.swap {base : Nat} {W : World} {va vb : Value} {a b : List S27} (h : PR base W va a vb b) : PR base W vb b va a := by
  obtain ⟨SA, SB, hd, ha, hb⟩ := h
  exact ⟨SB, SA, fun k h1 h2 => hd k h2 h1, hb, ha⟩
theorem PR.grow {base : Nat} {W w1 : World} {va vb v1 : Value} {a b a' : List S27} {SA SB : Nat → Prop} (hd : ∀ k, SA k → ¬ SB k) (ha : Kd.R k27 27 W base SA va a) (hb : Kd.R k27 27 W base SB vb b) (ho : Kd.R k27 27 w1 base (fun k => SA k ∨ W.heap.size ≤ k) v1 a') (hg : W.grownBy w1 va.ownBlock) : PR base w1 v1 a' vb b :=
  ⟨fun k => SA k ∨ W.heap.size ≤ k, fun k => SB k ∧ k < W.heap.size, fun k h1 h2 => h1.elim (fun h => hd k h h2.1) (fun h => Nat.lt_irrefl _ (Nat.lt_of_lt_of_le h2.2 h)), ho,
    Kd.R_grown (Kd.R_mono (Kd.R_bound hb) (fun k hk => ⟨hk.1, hk.2.2.1⟩)) hg (fun k hk e => hd k (ha.1 k e.symm) hk.1)⟩
theorem PR.first {base : Nat} {W w1 : World} {va vb : Value} {a b : List S27} (ha : Kd.R k27 27 W base (fun _ => True) va a) (hb : Kd.R k27 27 w1 base (fun k => W.heap.size ≤ k) vb b) (hbe : Below W.heap.size W w1) : PR base w1 va a vb b :=
  ⟨fun k => k < W.heap.size, fun k => W.heap.size ≤ k, fun k h1 h2 => Nat.lt_irrefl _ (Nat.lt_of_lt_of_le h1 h2), Kd.R_below (Kd.R_mono (Kd.R_bound ha) (fun k hk => hk.2.2.1)) hbe, hb⟩
theorem box3 {W : World} {g : Nat} {t : TypeId} {v0 v1 v2 : Value} (h : W.heap[g]? = some (.cells #[v0, v1, v2] t (0, 0))) : W.cell? ⟨g, 0, none⟩ = some v0 ∧ W.cell? ⟨g, 1, none⟩ = some v1 ∧ W.cell? ⟨g, 2, none⟩ = some v2 :=
  ⟨(blk_cell h 0).trans rfl, (blk_cell h 1).trans rfl, (blk_cell h 2).trans rfl⟩
def bitE (n : Int) (i : Nat) : Int := Go.bits .and .i64 (shr .i64 n (IntKind.u64.wrap ((i : Nat) : Int))) 1
def rowA (n : Int) : Nat → List S27
  | 0 => []
  | i + 1 => rowA n i ++ [⟨2, bitE n i, []⟩]
def rowB : Nat → List S27
  | 0 => []
  | i + 1 => rowB i ++ [⟨1, ((i : Nat) : Int), []⟩]
theorem rowA_len (n : Int) : ∀ i, (rowA n i).length = i
  | 0 => rfl
  | i + 1 => by rw [rowA, List.length_append, rowA_len n i]; rfl
theorem rowB_len : ∀ i, (rowB i).length = i
  | 0 => rfl
  | i + 1 => by rw [rowB, List.length_append, rowB_len i]; rfl
theorem boxv3 {W : World} {g : Nat} {t : TypeId} {u0 u1 u2 v0 v1 v2 : Value} (hb : W.heap[g]? = some (.cells #[u0, u1, u2] t (0, 0))) : (((W.setCell ⟨g, 0, none⟩ v0).setCell ⟨g, 1, none⟩ v1).setCell ⟨g, 2, none⟩ v2).heap[g]? = some (.cells #[v0, v1, v2] t (0, 0)) ∧ Kept W (((W.setCell ⟨g, 0, none⟩ v0).setCell ⟨g, 1, none⟩ v1).setCell ⟨g, 2, none⟩ v2) (fun k => k = g) ∧ ∀ w0 : World, Below w0.heap.size w0 W → w0.heap.size ≤ g → Below w0.heap.size w0 (((W.setCell ⟨g, 0, none⟩ v0).setCell ⟨g, 1, none⟩ v1).setCell ⟨g, 2, none⟩ v2) :=
  ⟨blk_put (blk_put (blk_put hb 0 v0 rfl) 1 v1 rfl) 2 v2 rfl, Kept.setCell (S := fun k => k = g) (p := ⟨g, 2, none⟩) (Kept.setCell (S := fun k => k = g) (p := ⟨g, 1, none⟩) (Kept.setCell (S := fun k => k = g) (p := ⟨g, 0, none⟩) (Kept.refl W _) (.inl rfl) v0) (.inl rfl) v1) (.inl rfl) v2, fun w0 h1 h2 => below_set (below_set (below_set h1 h2) h2) h2⟩
def fc16_T : Bool × List (List Nat × List Nat) := (true, [([], []), ([], []), ([1], [1]), ([0, 2, 2], [0, 2]), ([3], [3]), ([4], [4]), ([4], [4]), ([5, 3, 0, 1, 2, 3, 4, 5], [5]), ([6, 7, 0, 1, 2, 3, 4, 5, 6, 7], [6])])
def fc16_B : List Nat := [0, 0, 2, 7, 15, 31, 31, 63, 95]
theorem fc16_tab : rtab .any (opsOf Try.f3 16) = fc16_T := by kernel_rfl
theorem fc16_bits : waitsOk fc16_T.2 fc16_B = true := by kernel_rfl
def fc17_T : Bool × List (List Nat × List Nat) := (true, [([], []), ([], []), ([1], [1]), ([0, 2, 2], [0, 2]), ([3], [3]), ([4], [4]), ([4], [4]), ([5, 3, 0, 1, 2, 3, 4, 5], [5]), ([6, 7, 0, 1, 2, 3, 4, 5, 6, 7], [6])])
def fc17_B : List Nat := [0, 0, 2, 7, 15, 31, 31, 63, 95]
theorem fc17_tab : rtab .any (opsOf Try.f3 17) = fc17_T := by kernel_rfl
theorem fc17_bits : waitsOk fc17_T.2 fc17_B = true := by kernel_rfl
def fc20_T : Bool × List (List Nat × List Nat) := (true, [([], []), ([], []), ([1], [1]), ([0, 2, 2], [0, 2]), ([3], [3]), ([4], [4]), ([4], [4]), ([5, 3, 0, 1, 2, 3, 4, 5], [5]), ([6, 7, 0, 1, 2, 3, 4, 5, 6, 7], [6])])
def fc20_B : List Nat := [0, 0, 2, 7, 15, 31, 31, 63, 95]
theorem fc20_tab : rtab .any (opsOf Try.f3 20) = fc20_T := by kernel_rfl
theorem fc20_bits : waitsOk fc20_T.2 fc20_B = true := by kernel_rfl
def manyE (m : Int) : Int := wrap64 (wrap64 (wrap64 (Int.tmod m 2 + Int.tmod (wrap64 (Int.tdiv m 2)) 2) + Int.tmod (wrap64 (Int.tdiv m 4)) 2) + wrap64 (Int.tdiv m 8))
def laws_FnCompares.f (k : Nat) (l0 l1 : List Int) : Option Bool :=
  if (l0.length : Int) > 1048576 then some true else if (l1.length : Int) > 1048576 then some true else
  (laws_at.f l1 0 16).bind fun n => (laws_at.f l0 1 16).bind fun m =>
  (impl_EqualEx.f k (rowA n 4) (rowB 4)).bind fun x => (impl_LessEx.f k (rowA n 4) (rowB 4)).bind fun y =>
  (laws_values.f k m 4).bind fun vs => (impl_EvalEx.f k x.1 x.2.1 x.2.2.1 vs).bind fun s => (impl_EvalEx.f k y.1 y.2.1 y.2.2.1 vs).bind fun t =>
  (laws_at.f l1 2 6).bind fun q => (impl_AtMostEx.f k (wrap64 (q - 1)) (rowB 4)).bind fun z => (impl_EvalEx.f k z.1 z.2.1 z.2.2.1 vs).bind fun u =>
  if x.2.2.2 = 0 ∧ y.2.2.2 = 0 ∧ s = (n == m, 0) ∧ t = (decide (n < m), 0) ∧ z.2.2.2 = 0 ∧ u = (decide (manyE m ≤ wrap64 (q - 1)), 0) then some true else none
set_option maxHeartbeats 8000000 in
set_option maxRecDepth 100000 in
theorem laws_FnCompares.calls (k : Nat) (A0 : Option Addr) (c0 : Nat) (l0 : List Int) (A1 : Option Addr) (c1 : Nat) (l1 : List Int) (r : Bool) (w : World) (hr0 : Kd.C (Kd.int .u8) w A0 l0.length l0) (hc0 : l0.length ≤ c0) (hr1 : Kd.C (Kd.int .u8) w A1 l1.length l1) (hc1 : l1.length ≤ c1) (h : laws_FnCompares.f k l0 l1 = some r) :
    Calls Try.prog 3 #[.slice A0 l0.length c0, .slice A1 l1.length c1] w fun e w' => e = .returned (.bool r) ∧ Below w.heap.size w w' := by
  have hu27 := Try.underlying27
  have hu24 := Try.underlying24
  have H0 := Aside0.mk hr0
  have H1 := Aside0.mk hr1
  clear hr0 hr1
  have HB := Aside0.mk (Below.refl w.heap.size w)
  unfold laws_FnCompares.f at h
  by_cases hbig0 : (l0.length : Int) > 1048576
  · rw [if_pos hbig0] at h
    obtain rfl := Option.some.inj h
    clear h
    go_enter Try.func3, Try.ntmps3
    go_wp2
    go_ret
    exact ⟨rfl, HB.out⟩
  rw [if_neg hbig0] at h
  by_cases hbig1 : (l1.length : Int) > 1048576
  · rw [if_pos hbig1] at h
    obtain rfl := Option.some.inj h
    clear h
    go_enter Try.func3, Try.ntmps3
    go_wp2
    go_ret
    exact ⟨rfl, HB.out⟩
  rw [if_neg hbig1] at h
  replace h := Option.bind_eq_some_iff.1 h
  obtain ⟨n, han, h⟩ := h
  replace h := Option.bind_eq_some_iff.1 h
  obtain ⟨m, ham, h⟩ := h
  replace h := Option.bind_eq_some_iff.1 h
  obtain ⟨⟨x1, x2, x3, x4⟩, hx, h⟩ := h
  replace h := Option.bind_eq_some_iff.1 h
  obtain ⟨⟨y1, y2, y3, y4⟩, hy, h⟩ := h
  replace h := Option.bind_eq_some_iff.1 h
  obtain ⟨vs, hvs, h⟩ := h
  replace h := Option.bind_eq_some_iff.1 h
  obtain ⟨⟨s1, s2⟩, hs, h⟩ := h
  replace h := Option.bind_eq_some_iff.1 h
  obtain ⟨⟨t1, t2⟩, ht, h⟩ := h
  replace h := Option.bind_eq_some_iff.1 h
  obtain ⟨q, haq, h⟩ := h
  replace h := Option.bind_eq_some_iff.1 h
  obtain ⟨⟨z1, z2, z3, z4⟩, hz, h⟩ := h
  replace h := Option.bind_eq_some_iff.1 h
  obtain ⟨⟨u1, u2⟩, hu, h⟩ := h
  dsimp only at hs ht hu h
  by_cases hc : x4 = 0 ∧ y4 = 0 ∧ (s1, s2) = (n == m, 0) ∧ (t1, t2) = (decide (n < m), 0) ∧ z4 = 0 ∧ (u1, u2) = (decide (manyE m ≤ wrap64 (q - 1)), 0)
  rotate_left
  · rw [if_neg hc] at h
    cases h
  rw [if_pos hc] at h
  obtain ⟨rfl, rfl, es, et, rfl, eu⟩ := hc
  obtain ⟨rfl, rfl⟩ := Prod.mk.inj es
  obtain ⟨rfl, rfl⟩ := Prod.mk.inj et
  obtain ⟨rfl, rfl⟩ := Prod.mk.inj eu
  clear es et eu
  obtain rfl := Option.some.inj h
  clear h
  go_enter Try.func3, Try.ntmps3
  go_upto_region 5 with (first | (go_at_call 4; (with_reducible refine (laws_at.calls A1 c1 l1 0 16 n _ (Kd.C_below H1.out HB.out) hc1 han).mono ?_); rintro e wa ⟨rfl, hd⟩; have hb := hd.below; clear hd; replace HB := Aside0.mk (HB.out.trans (hb.mono HB.out.size)); clear hb) | (go_at_call 4; (with_reducible refine (laws_at.calls A0 c0 l0 1 16 m _ (Kd.C_below H0.out HB.out) hc0 ham).mono ?_); rintro e wa ⟨rfl, hd⟩; have hb := hd.below; clear hd; replace HB := Aside0.mk (HB.out.trans (hb.mono HB.out.size)); clear hb))
  go_upto_region 7 with (first | ((with_reducible refine gate_dst (N := 36) rfl ?_); refine Kd.R_lit k27 w.heap.size 27 rfl (N := 36) rfl (xs := ([] : List S27)) (inner := []) (ok := fun _ => True) (okp := fun _ => False) (by go_simp; done) (Reps.none _ _) (fun _ hk => hk.elim) trivial HB.out HB.out.size (by simp) ?_; intro va wA hra hbA hgA hnA; replace HB := Aside0.mk hbA; have HRA := Aside0.mk hra; clear hra hbA hgA hnA) | ((with_reducible refine gate_dst (N := 37) rfl ?_); refine Kd.R_lit k27 w.heap.size 27 rfl (N := 37) rfl (xs := ([] : List S27)) (inner := []) (ok := fun k_ => wA.heap.size ≤ k_) (okp := fun _ => False) (by go_simp; done) (Reps.none _ _) (fun _ hk => hk.elim) (Nat.le_refl _) HB.out HB.out.size (by simp) ?_; intro vb wB hrb hbB hgB hnB; have HP := Aside0.mk (PR.first HRA.out hrb (pw_below_grown (Below.refl _ _) none (Nat.le_refl _) hgB (fun k h => by cases h))); replace HB := Aside0.mk hbB; clear hrb hbB hgB hnB HRA))
  go_wp2
  go_loopg [7, 8, 9] 4 (fun gg s7 s8 s9 wr => ∃ kk : Nat, kk ≤ 4 ∧ 4 - kk ≤ gg ∧ s9 = .int .i64 kk ∧ Aside0 (Below w.heap.size w wr) ∧ Aside0 (PR w.heap.size wr s7 (rowA n kk) s8 (rowB kk)))
  case atStart => exact ⟨0, Nat.zero_le _, by omega, rfl, HB, HP⟩
  case round =>
    clear HB HP
    obtain ⟨kk, hkk, hg, rfl, HB, HP⟩ := hrel
    by_cases hlt : kk < 4
    · have hltz : (kk : Int) < 4 := by omega
      have hkc0 : (0 : Int) ≤ (kk : Int) := Int.natCast_nonneg _
      have hsh : IntKind.u64.wrap ((kk : Nat) : Int) = (kk : Int) := IntWalk.u64_in _ ⟨hkc0, by omega⟩
      have ew : IntKind.i64.wrap ((kk : Int) + 1) = ((kk + 1 : Nat) : Int) := IntWalk.i64_in _ ⟨by omega, by omega⟩
      have hbit : bitE n kk = Go.bits .and .i64 (shr .i64 n (kk : Int)) 1 := by unfold bitE; rw [hsh]
      obtain ⟨SA, SB, hdis, hPa, hPb⟩ := HP.out
      obtain ⟨Aa, ca, ea⟩ := Kd.R_slice hPa
      obtain ⟨Ab, cb, eb⟩ := Kd.R_slice hPb
      subst ea eb
      have HDA := Aside0.mk hdis
      have HPA := Aside0.mk hPa
      have HPB := Aside0.mk hPb
      clear hdis hPa hPb HP
      obtain ⟨bt, hbt⟩ : ∃ b, Go.bits .and .i64 (shr .i64 n (kk : Int)) 1 = b := ⟨_, rfl⟩
      rw [hbt] at hbit
      have HBT := Aside0.mk hbit
      clear hbit
      obtain ⟨sv, hsv⟩ : ∃ s, shr .i64 n (kk : Int) = s := ⟨_, rfl⟩
      rw [hsv] at hbt
      have hsv_ : (n / 2 ^ min ((kk : Int)).toNat 64) = sv := hsv
      have hsvz : (kk : Int) ≤ 64 → (n / 2 ^ ((kk : Int)).toNat) = sv := shr_small hsv
      have hsvn : n / 2 ^ kk = sv := by have h_ := hsvz (by omega); rwa [Int.toNat_natCast] at h_
      go_upto_region 9 with (first
        | ((with_reducible refine gate_builtin (b := .append) (xs := #[.tmp 42, .tmp 49]) rfl ?_); at_builtin; go_loud (refine Kd.R_append k27 (w0 := w) w.heap.size rfl (.tmp 42) (.tmp 49) 24 27 (.agg #[.int .i64 0, .int .i64 0, .slice none 0 0]) 40 rfl Try.underlying24 info27 rfl (by decide) (by omega) (.slice Aa (rowA n kk).length ca) (rowA n kk) (⟨2, bt, []⟩) [.int .i64 2, .int .i64 bt, .slice none 0 0] (fun k_ => SA k_ ∨ wr.heap.size ≤ k_) (fun _ => False) rfl (by (go_simp; done)) (k27_mkM _ _ _ (⟨2, bt, []⟩) (Kd.R_nil _ _ _ _ _)) (fun _ hk => hk.elim) (fun _ hk => .inr hk) (Kd.R_mono HPA.out (fun _ hk => .inl hk)) HB.out HB.out.size (by simp [rowA_len, rowB_len]; omega) ?_); intro v1 wC ho hbC hgC hatC; have HP := Aside0.mk (PR.grow HDA.out HPA.out HPB.out ho hgC); replace HB := Aside0.mk hbC; clear ho hbC hgC hatC HDA HPA HPB SA SB; obtain ⟨SA, SB, hdis, hPa, hPb⟩ := HP.out; have HDA := Aside0.mk hdis; have HPA := Aside0.mk hPa; have HPB := Aside0.mk hPb; clear hdis hPa hPb HP)
        | ((with_reducible refine gate_builtin (b := .append) (xs := #[.tmp 51, .tmp 54]) rfl ?_); at_builtin; go_loud (refine Kd.R_append k27 (w0 := w) w.heap.size rfl (.tmp 51) (.tmp 54) 24 27 (.agg #[.int .i64 0, .int .i64 0, .slice none 0 0]) 40 rfl Try.underlying24 info27 rfl (by decide) (by omega) (.slice Ab (rowB kk).length cb) (rowB kk) (⟨1, (kk : Int), []⟩) [.int .i64 1, .int .i64 (kk : Int), .slice none 0 0] (fun k_ => SB k_ ∨ wC.heap.size ≤ k_) (fun _ => False) rfl (by (go_simp; done)) (k27_mkM _ _ _ (⟨1, (kk : Int), []⟩) (Kd.R_nil _ _ _ _ _)) (fun _ hk => hk.elim) (fun _ hk => .inr hk) (Kd.R_mono HPB.out (fun _ hk => .inl hk)) HB.out HB.out.size (by simp [rowA_len, rowB_len]; omega) ?_); intro v2 wD ho hbD hgD hatD; have HP := Aside0.mk (PR.swap (PR.grow (fun k_ h1_ h2_ => HDA.out k_ h2_ h1_) HPB.out HPA.out ho hgD)); replace HB := Aside0.mk hbD; clear ho hbD hgD hatD HDA HPA HPB SA SB))
      have HP2 : Aside0 (PR w.heap.size wD v1 (rowA n (kk + 1)) v2 (rowB (kk + 1))) := ⟨by rw [rowA, rowB, HBT.out]; exact HP.out⟩
      go_wp2
      go_roundg (4 - (kk + 1))
      case measure => omega
      case rel => exact ⟨kk + 1, by omega, by omega, by go_num, HB, HP2⟩
    obtain rfl : kk = 4 := by omega
    have hltz : ¬ ((4 : Nat) : Int) < 4 := by omega
    clear hlt
    obtain ⟨SA, SB, hdis, hPa, hPb⟩ := HP.out
    obtain ⟨Aa, ca, ea⟩ := Kd.R_slice hPa
    obtain ⟨Ab, cb, eb⟩ := Kd.R_slice hPb
    subst ea eb
    have VA := Aside0.mk (Kd.V_bound (Kd.R_V (base' := 0) hPa))
    have VB := Aside0.mk (Kd.V_bound (Kd.R_V (base' := 0) hPb))
    clear hdis hPa hPb HP
    go_upto_region 13 with (first
      | (go_at_call 5; (with_reducible refine (equalS.calls k _ _ _ (rowA n 4) _ _ _ (rowB 4) x1 x2 x3 0 _ VA.out VB.out hx).mono ?_); rintro e wXc ⟨vv, rfl, hS, hb⟩; replace VA := Aside0.mk (Kd.V_below VA.out hb); replace VB := Aside0.mk (Kd.V_below VB.out hb); replace HB := Aside0.mk (HB.out.trans (hb.mono HB.out.size)); clear hb; have VX := Aside0.mk (Kd.V_bound (V27 (Kd.S_V (base' := 0) hS))); clear hS; obtain ⟨AX, cX, ev_⟩ := Kd.V_slice VX.out; subst ev_)
      | ((with_reducible refine gate_dst (N := 10) rfl ?_); refine box_event rfl (N := 10) rfl (cs := #[.int .i64 0, .int .i64 0, .slice none 0 0]) (t := 27) (by go_simp; done) ?_; intro gX hg_ wX hbox hbb; have GEX := Aside0.mk (show w.heap.size ≤ gX by rw [hg_]; exact HB.out.size); replace VA := Aside0.mk (Kd.V_below (Kd.V_mono (ok' := fun k_ => k_ < gX) (Kd.V_bound VA.out) (fun k_ hk_ => by rw [hg_]; exact hk_.2)) hbb); replace VB := Aside0.mk (Kd.V_below (Kd.V_mono (ok' := fun k_ => k_ < gX) (Kd.V_bound VB.out) (fun k_ hk_ => by rw [hg_]; exact hk_.2)) hbb); replace VX := Aside0.mk (Kd.V_below (Kd.V_mono (ok' := fun k_ => k_ < gX) (Kd.V_bound VX.out) (fun k_ hk_ => by rw [hg_]; exact hk_.2)) hbb); replace HB := Aside0.mk (HB.out.trans (hbb.mono HB.out.size)); clear hbb hg_; have BX := Aside0.mk hbox; clear hbox; obtain ⟨cX0, cX1, cX2⟩ := box3 BX.out)
      | ((with_reducible refine gate_store (t := 27) (p := 10) rfl ?_); have fz0 := blk_frozen BX.out 0; have fz1 := blk_frozen BX.out 1; have fz2 := blk_frozen BX.out 2; refine store_event (t := 27) (p := 10) (v := .tmp 60) (w1 := (((wX.setCell ⟨gX, 0, none⟩ (.int .i64 x1)).setCell ⟨gX, 1, none⟩ (.int .i64 x2)).setCell ⟨gX, 2, none⟩ (.slice AX x3.length cX))) rfl rfl rfl (by go_simp; done) ?_; clear fz0 fz1 fz2; clear cX0 cX1 cX2; intro wXs hw_; obtain ⟨hbk, hkb, hkw⟩ := boxv3 (v0 := .int .i64 x1) (v1 := .int .i64 x2) (v2 := .slice AX x3.length cX) BX.out; rw [← hw_] at hbk hkb hkw; clear hw_; replace VA := Aside0.mk (Kd.V_kept VA.out hkb (fun k_ hk_ hs_ => Nat.ne_of_lt hk_ hs_)); replace VB := Aside0.mk (Kd.V_kept VB.out hkb (fun k_ hk_ hs_ => Nat.ne_of_lt hk_ hs_)); replace VX := Aside0.mk (Kd.V_kept VX.out hkb (fun k_ hk_ hs_ => Nat.ne_of_lt hk_ hs_)); replace HB := Aside0.mk (hkw _ HB.out GEX.out); replace BX := Aside0.mk hbk; clear hbk hkb hkw; obtain ⟨cX0, cX1, cX2⟩ := box3 BX.out))
    go_upto_region 14 with (first
      | (go_at_call 6; (with_reducible refine (lessS.calls k _ _ _ (rowA n 4) _ _ _ (rowB 4) y1 y2 y3 0 _ VA.out VB.out hy).mono ?_); rintro e wYc ⟨vv, rfl, hS, hb⟩; clear cX0 cX1 cX2; replace VA := Aside0.mk (Kd.V_below VA.out hb); replace VB := Aside0.mk (Kd.V_below VB.out hb); replace VX := Aside0.mk (Kd.V_below VX.out hb); replace BX := Aside0.mk (blk_below BX.out hb); replace HB := Aside0.mk (HB.out.trans (hb.mono HB.out.size)); clear hb; have VY := Aside0.mk (Kd.V_bound (V27 (Kd.S_V (base' := 0) hS))); clear hS; obtain ⟨AY, cY, ev_⟩ := Kd.V_slice VY.out; subst ev_; obtain ⟨cX0, cX1, cX2⟩ := box3 BX.out)
      | ((with_reducible refine gate_dst (N := 12) rfl ?_); refine box_event rfl (N := 12) rfl (cs := #[.int .i64 0, .int .i64 0, .slice none 0 0]) (t := 27) (by go_simp; done) ?_; intro gY hg_ wY hbox hbb; clear cX0 cX1 cX2; have GEY := Aside0.mk (show w.heap.size ≤ gY by rw [hg_]; exact HB.out.size); replace VA := Aside0.mk (Kd.V_below (Kd.V_mono (ok' := fun k_ => k_ < gY) (Kd.V_bound VA.out) (fun k_ hk_ => by rw [hg_]; exact hk_.2)) hbb); replace VB := Aside0.mk (Kd.V_below (Kd.V_mono (ok' := fun k_ => k_ < gY) (Kd.V_bound VB.out) (fun k_ hk_ => by rw [hg_]; exact hk_.2)) hbb); replace VX := Aside0.mk (Kd.V_below (Kd.V_mono (ok' := fun k_ => k_ < gY) (Kd.V_bound VX.out) (fun k_ hk_ => by rw [hg_]; exact hk_.2)) hbb); replace VY := Aside0.mk (Kd.V_below (Kd.V_mono (ok' := fun k_ => k_ < gY) (Kd.V_bound VY.out) (fun k_ hk_ => by rw [hg_]; exact hk_.2)) hbb); have NEXY := Aside0.mk (show gX ≠ gY by rw [hg_]; exact Nat.ne_of_lt (blk_lt BX.out)); replace BX := Aside0.mk (blk_below BX.out hbb); replace HB := Aside0.mk (HB.out.trans (hbb.mono HB.out.size)); clear hbb hg_; have BY := Aside0.mk hbox; clear hbox; obtain ⟨cX0, cX1, cX2⟩ := box3 BX.out; obtain ⟨cY0, cY1, cY2⟩ := box3 BY.out)
      | ((with_reducible refine gate_store (t := 27) (p := 12) rfl ?_); have fz0 := blk_frozen BY.out 0; have fz1 := blk_frozen BY.out 1; have fz2 := blk_frozen BY.out 2; refine store_event (t := 27) (p := 12) (v := .tmp 66) (w1 := (((wY.setCell ⟨gY, 0, none⟩ (.int .i64 y1)).setCell ⟨gY, 1, none⟩ (.int .i64 y2)).setCell ⟨gY, 2, none⟩ (.slice AY y3.length cY))) rfl rfl rfl (by go_simp; done) ?_; clear fz0 fz1 fz2; clear cX0 cX1 cX2 cY0 cY1 cY2; intro wYs hw_; obtain ⟨hbk, hkb, hkw⟩ := boxv3 (v0 := .int .i64 y1) (v1 := .int .i64 y2) (v2 := .slice AY y3.length cY) BY.out; rw [← hw_] at hbk hkb hkw; clear hw_; replace VA := Aside0.mk (Kd.V_kept VA.out hkb (fun k_ hk_ hs_ => Nat.ne_of_lt hk_ hs_)); replace VB := Aside0.mk (Kd.V_kept VB.out hkb (fun k_ hk_ hs_ => Nat.ne_of_lt hk_ hs_)); replace VX := Aside0.mk (Kd.V_kept VX.out hkb (fun k_ hk_ hs_ => Nat.ne_of_lt hk_ hs_)); replace VY := Aside0.mk (Kd.V_kept VY.out hkb (fun k_ hk_ hs_ => Nat.ne_of_lt hk_ hs_)); replace BX := Aside0.mk (blk_kept BX.out hkb (fun h_ => NEXY.out h_)); replace HB := Aside0.mk (hkw _ HB.out GEY.out); replace BY := Aside0.mk hbk; clear hbk hkb hkw; obtain ⟨cX0, cX1, cX2⟩ := box3 BX.out; obtain ⟨cY0, cY1, cY2⟩ := box3 BY.out))
    go_upto_region 16 with fail
    have hbd := below_drew (Below.refl wYs.heap.size wYs)
    clear cX0 cX1 cX2 cY0 cY1 cY2
    replace VA := Aside0.mk (Kd.V_below VA.out hbd)
    replace VB := Aside0.mk (Kd.V_below VB.out hbd)
    replace VX := Aside0.mk (Kd.V_below VX.out hbd)
    replace VY := Aside0.mk (Kd.V_below VY.out hbd)
    replace BX := Aside0.mk (blk_below BX.out hbd)
    replace BY := Aside0.mk (blk_below BY.out hbd)
    replace HB := Aside0.mk (HB.out.trans (hbd.mono HB.out.size))
    obtain ⟨cX0, cX1, cX2⟩ := box3 BX.out
    obtain ⟨cY0, cY1, cY2⟩ := box3 BY.out
    clear hbd
    generalize hw9 : wYs.drew = w10_16 at *
    refine start_ (n := 9) (S := fun w' => w'.cell? ⟨gX, 0, none⟩ = some (.int .i64 x1) ∧ w'.cell? ⟨gX, 1, none⟩ = some (.int .i64 x2) ∧ w'.cell? ⟨gX, 2, none⟩ = some (.slice AX x3.length cX)) (ds := []) #[false, false, false, false, false, false, false, false, false] (by kernel_rfl) rfl rfl (by rw [hw9]; exact ⟨cX0, cX1, cX2⟩) (fun hHeld => ?_)
    refine with_tabW fc16_tab fc16_bits (fun HT_ HW_ => ?_)
    rw [hw9] at hHeld ⊢
    clear hw9
    refine take_ (i := 0) (N := some 75) (v := ?_) (a' := ?_) #[true, false, false, false, false, false, false, false, false] rfl rfl (take_ofW HT_.out HW_.out (by kernel_rfl)) (fun _ _ _ h => h) (Or.inl ⟨by rfl, ?_⟩) hHeld ?_ ?_
    rotate_left
    · rintro w' ⟨s0, s1, s2⟩
      go_simp
      with_reducible rfl
    rotate_left
    · simp only [Act.put, List.setIfInBounds_toArray, List.set_cons_zero, List.set_cons_succ, i64_w, i32_w]
      rfl
    refine pure_ (i := 1) (N := some 76) (v := ?_) (a' := ?_) #[true, true, false, false, false, false, false, false, false] rfl rfl (any_of HT_.out (by kernel_rfl)) (fun _ _ _ h => h) (Or.inl ⟨by rfl, ?_⟩) ?_ ?_
    rotate_left
    · intro w'
      go_simp
      with_reducible rfl
    rotate_left
    · simp only [Act.put, List.setIfInBounds_toArray, List.set_cons_zero, List.set_cons_succ, i64_w, i32_w]
      rfl
    refine one_ (i := 2) (N := some 77) #[true, true, true, false, false, false, false, false, false] rfl rfl (one_of HT_.out (by kernel_rfl)) (by decide) (fun K hK => ?_)
    refine call_ 8 #[.int .i64 m, .int .i64 4] (by rfl) rfl ?q16_hrun2 ?q16_h2
    case q16_hrun2 =>
      have he := enters_of Try.func8 (by kernel_rfl) rfl
      unfold execOp
      simp [resolve, Deferred.ofValue, invoke, Act.eval, he]
    refine (laws_values.calls k m 4 vs _ hvs).mono ?_
    rintro e wv ⟨vv, rfl, hV, hb⟩
    refine ⟨_, rfl, ?_⟩
    obtain ⟨Av, cv, ev_⟩ := Kd.R_slice hV
    subst ev_
    have HV := Aside0.mk hV
    clear hV
    clear cX0 cX1 cX2 cY0 cY1 cY2
    replace VA := Aside0.mk (Kd.V_below VA.out hb)
    replace VB := Aside0.mk (Kd.V_below VB.out hb)
    replace VX := Aside0.mk (Kd.V_below VX.out hb)
    replace VY := Aside0.mk (Kd.V_below VY.out hb)
    replace BX := Aside0.mk (blk_below BX.out hb)
    replace BY := Aside0.mk (blk_below BY.out hb)
    replace HB := Aside0.mk (HB.out.trans (hb.mono HB.out.size))
    obtain ⟨cX0, cX1, cX2⟩ := box3 BX.out
    obtain ⟨cY0, cY1, cY2⟩ := box3 BY.out
    clear hb
    refine hK.out _ _ ⟨cX0, cX1, cX2⟩ (fun hHeld => ?_)
    clear hK K
    refine norm_ (a' := ?_) ?_ ?_
    rotate_left
    · show Act.put _ (some 77) _ = _
      simp only [Act.put, List.setIfInBounds_toArray, List.set_cons_zero, List.set_cons_succ, i64_w, i32_w]
      rfl
    refine one_ (i := 3) (N := some 78) #[true, true, true, true, false, false, false, false, false] rfl rfl (one_of HT_.out (by kernel_rfl)) (by decide) (fun K hK => ?_)
    refine call_ 7 #[.agg #[.int .i64 x1, .int .i64 x2, .slice AX x3.length cX], .slice Av vs.length cv] (by rfl) rfl ?q16_hrun3 ?q16_h3
    case q16_hrun3 =>
      have he := enters_of Try.func7 (by kernel_rfl) rfl
      unfold execOp
      simp [resolve, Deferred.ofValue, invoke, Act.eval, he]
    refine (impl_EvalEx.calls k x1 x2 AX cX x3 Av cv vs _ 0 _ (Kd.V_reads' VX.out).2.2 (Kd.V_reads' VX.out).2.1 (Kd.R_reads' HV.out).2.2 (Kd.R_reads' HV.out).2.1 hs).mono ?_
    rintro e we ⟨rfl, hb⟩
    refine ⟨_, rfl, ?_⟩
    clear HV
    clear cX0 cX1 cX2 cY0 cY1 cY2
    replace VA := Aside0.mk (Kd.V_below VA.out hb)
    replace VB := Aside0.mk (Kd.V_below VB.out hb)
    replace VX := Aside0.mk (Kd.V_below VX.out hb)
    replace VY := Aside0.mk (Kd.V_below VY.out hb)
    replace BX := Aside0.mk (blk_below BX.out hb)
    replace BY := Aside0.mk (blk_below BY.out hb)
    replace HB := Aside0.mk (HB.out.trans (hb.mono HB.out.size))
    obtain ⟨cX0, cX1, cX2⟩ := box3 BX.out
    obtain ⟨cY0, cY1, cY2⟩ := box3 BY.out
    clear hb
    refine hK.out _ _ ⟨cX0, cX1, cX2⟩ (fun hHeld => ?_)
    clear hK K
    refine norm_ (a' := ?_) ?_ ?_
    rotate_left
    · show Act.put _ (some 78) _ = _
      simp only [Act.put, List.setIfInBounds_toArray, List.set_cons_zero, List.set_cons_succ, i64_w, i32_w]
      rfl
    refine pure_ (i := 4) (N := some 74) (v := ?_) (a' := ?_) #[true, true, true, true, true, false, false, false, false] rfl rfl (any_of HT_.out (by kernel_rfl)) (fun _ _ _ h => h) (Or.inl ⟨by rfl, ?_⟩) ?_ ?_
    rotate_left
    · intro w'
      go_simp
      with_reducible rfl
    rotate_left
    · simp only [Act.put, List.setIfInBounds_toArray, List.set_cons_zero, List.set_cons_succ, i64_w, i32_w]
      rfl
    refine pure_ (i := 5) (N := some 79) (v := ?_) (a' := ?_) #[true, true, true, true, true, true, false, false, false] rfl rfl (any_of HT_.out (by kernel_rfl)) (fun _ _ _ h => h) (Or.inl ⟨by rfl, ?_⟩) ?_ ?_
    rotate_left
    · intro w'
      go_simp
      with_reducible rfl
    rotate_left
    · simp only [Act.put, List.setIfInBounds_toArray, List.set_cons_zero, List.set_cons_succ, i64_w, i32_w]
      rfl
    refine pure_ (i := 6) (N := some 80) (v := ?_) (a' := ?_) #[true, true, true, true, true, true, true, false, false] rfl rfl (any_of HT_.out (by kernel_rfl)) (fun _ _ _ h => h) (Or.inl ⟨by rfl, ?_⟩) ?_ ?_
    rotate_left
    · intro w'
      go_simp
      with_reducible rfl
    rotate_left
    · simp only [Act.put, List.setIfInBounds_toArray, List.set_cons_zero, List.set_cons_succ, i64_w, i32_w]
      rfl
    refine pure_ (i := 7) (N := some 14) (v := ?_) (a' := ?_) #[true, true, true, true, true, true, true, true, false] rfl rfl (any_of HT_.out (by kernel_rfl)) (fun _ _ _ h => h) (Or.inl ⟨by rfl, ?_⟩) ?_ ?_
    rotate_left
    · intro w'
      go_simp
      with_reducible rfl
    rotate_left
    · simp only [Act.put, List.setIfInBounds_toArray, List.set_cons_zero, List.set_cons_succ, i64_w, i32_w]
      rfl
    refine pure_ (i := 8) (N := some 15) (v := ?_) (a' := ?_) #[true, true, true, true, true, true, true, true, true] rfl rfl (any_of HT_.out (by kernel_rfl)) (fun _ _ _ h => h) (Or.inl ⟨by rfl, ?_⟩) ?_ ?_
    rotate_left
    · intro w'
      go_simp
      with_reducible rfl
    rotate_left
    · simp only [Act.put, List.setIfInBounds_toArray, List.set_cons_zero, List.set_cons_succ, i64_w, i32_w]
      rfl
    refine done_ (done_of HT_.out (by kernel_rfl)) ?_
    clear hHeld HT_ HW_
    go_upto_region 17 with fail
    have hbd := below_drew (Below.refl we.heap.size we)
    clear cX0 cX1 cX2 cY0 cY1 cY2
    replace VA := Aside0.mk (Kd.V_below VA.out hbd)
    replace VB := Aside0.mk (Kd.V_below VB.out hbd)
    replace VX := Aside0.mk (Kd.V_below VX.out hbd)
    replace VY := Aside0.mk (Kd.V_below VY.out hbd)
    replace BX := Aside0.mk (blk_below BX.out hbd)
    replace BY := Aside0.mk (blk_below BY.out hbd)
    replace HB := Aside0.mk (HB.out.trans (hbd.mono HB.out.size))
    obtain ⟨cX0, cX1, cX2⟩ := box3 BX.out
    obtain ⟨cY0, cY1, cY2⟩ := box3 BY.out
    clear hbd
    generalize hw9 : we.drew = w10_17 at *
    refine start_ (n := 9) (S := fun w' => w'.cell? ⟨gY, 0, none⟩ = some (.int .i64 y1) ∧ w'.cell? ⟨gY, 1, none⟩ = some (.int .i64 y2) ∧ w'.cell? ⟨gY, 2, none⟩ = some (.slice AY y3.length cY)) (ds := []) #[false, false, false, false, false, false, false, false, false] (by kernel_rfl) rfl rfl (by rw [hw9]; exact ⟨cY0, cY1, cY2⟩) (fun hHeld => ?_)
    refine with_tabW fc17_tab fc17_bits (fun HT_ HW_ => ?_)
    rw [hw9] at hHeld ⊢
    clear hw9
    refine take_ (i := 0) (N := some 82) (v := ?_) (a' := ?_) #[true, false, false, false, false, false, false, false, false] rfl rfl (take_ofW HT_.out HW_.out (by kernel_rfl)) (fun _ _ _ h => h) (Or.inl ⟨by rfl, ?_⟩) hHeld ?_ ?_
    rotate_left
    · rintro w' ⟨s0, s1, s2⟩
      go_simp
      with_reducible rfl
    rotate_left
    · simp only [Act.put, List.setIfInBounds_toArray, List.set_cons_zero, List.set_cons_succ, i64_w, i32_w]
      rfl
    refine pure_ (i := 1) (N := some 83) (v := ?_) (a' := ?_) #[true, true, false, false, false, false, false, false, false] rfl rfl (any_of HT_.out (by kernel_rfl)) (fun _ _ _ h => h) (Or.inl ⟨by rfl, ?_⟩) ?_ ?_
    rotate_left
    · intro w'
      go_simp
      with_reducible rfl
    rotate_left
    · simp only [Act.put, List.setIfInBounds_toArray, List.set_cons_zero, List.set_cons_succ, i64_w, i32_w]
      rfl
    refine one_ (i := 2) (N := some 84) #[true, true, true, false, false, false, false, false, false] rfl rfl (one_of HT_.out (by kernel_rfl)) (by decide) (fun K hK => ?_)
    refine call_ 8 #[.int .i64 m, .int .i64 4] (by rfl) rfl ?q17_hrun2 ?q17_h2
    case q17_hrun2 =>
      have he := enters_of Try.func8 (by kernel_rfl) rfl
      unfold execOp
      simp [resolve, Deferred.ofValue, invoke, Act.eval, he]
    refine (laws_values.calls k m 4 vs _ hvs).mono ?_
    rintro e wv ⟨vv, rfl, hV, hb⟩
    refine ⟨_, rfl, ?_⟩
    obtain ⟨Av, cv, ev_⟩ := Kd.R_slice hV
    subst ev_
    have HV := Aside0.mk hV
    clear hV
    clear cX0 cX1 cX2 cY0 cY1 cY2
    replace VA := Aside0.mk (Kd.V_below VA.out hb)
    replace VB := Aside0.mk (Kd.V_below VB.out hb)
    replace VX := Aside0.mk (Kd.V_below VX.out hb)
    replace VY := Aside0.mk (Kd.V_below VY.out hb)
    replace BX := Aside0.mk (blk_below BX.out hb)
    replace BY := Aside0.mk (blk_below BY.out hb)
    replace HB := Aside0.mk (HB.out.trans (hb.mono HB.out.size))
    obtain ⟨cX0, cX1, cX2⟩ := box3 BX.out
    obtain ⟨cY0, cY1, cY2⟩ := box3 BY.out
    clear hb
    refine hK.out _ _ ⟨cY0, cY1, cY2⟩ (fun hHeld => ?_)
    clear hK K
    refine norm_ (a' := ?_) ?_ ?_
    rotate_left
    · show Act.put _ (some 84) _ = _
      simp only [Act.put, List.setIfInBounds_toArray, List.set_cons_zero, List.set_cons_succ, i64_w, i32_w]
      rfl
    refine one_ (i := 3) (N := some 85) #[true, true, true, true, false, false, false, false, false] rfl rfl (one_of HT_.out (by kernel_rfl)) (by decide) (fun K hK => ?_)
    refine call_ 7 #[.agg #[.int .i64 y1, .int .i64 y2, .slice AY y3.length cY], .slice Av vs.length cv] (by rfl) rfl ?q17_hrun3 ?q17_h3
    case q17_hrun3 =>
      have he := enters_of Try.func7 (by kernel_rfl) rfl
      unfold execOp
      simp [resolve, Deferred.ofValue, invoke, Act.eval, he]
    refine (impl_EvalEx.calls k y1 y2 AY cY y3 Av cv vs _ 0 _ (Kd.V_reads' VY.out).2.2 (Kd.V_reads' VY.out).2.1 (Kd.R_reads' HV.out).2.2 (Kd.R_reads' HV.out).2.1 ht).mono ?_
    rintro e we ⟨rfl, hb⟩
    refine ⟨_, rfl, ?_⟩
    clear HV
    clear cX0 cX1 cX2 cY0 cY1 cY2
    replace VA := Aside0.mk (Kd.V_below VA.out hb)
    replace VB := Aside0.mk (Kd.V_below VB.out hb)
    replace VX := Aside0.mk (Kd.V_below VX.out hb)
    replace VY := Aside0.mk (Kd.V_below VY.out hb)
    replace BX := Aside0.mk (blk_below BX.out hb)
    replace BY := Aside0.mk (blk_below BY.out hb)
    replace HB := Aside0.mk (HB.out.trans (hb.mono HB.out.size))
    obtain ⟨cX0, cX1, cX2⟩ := box3 BX.out
    obtain ⟨cY0, cY1, cY2⟩ := box3 BY.out
    clear hb
    refine hK.out _ _ ⟨cY0, cY1, cY2⟩ (fun hHeld => ?_)
    clear hK K
    refine norm_ (a' := ?_) ?_ ?_
    rotate_left
    · show Act.put _ (some 85) _ = _
      simp only [Act.put, List.setIfInBounds_toArray, List.set_cons_zero, List.set_cons_succ, i64_w, i32_w]
      rfl
    refine pure_ (i := 4) (N := some 81) (v := ?_) (a' := ?_) #[true, true, true, true, true, false, false, false, false] rfl rfl (any_of HT_.out (by kernel_rfl)) (fun _ _ _ h => h) (Or.inl ⟨by rfl, ?_⟩) ?_ ?_
    rotate_left
    · intro w'
      go_simp
      with_reducible rfl
    rotate_left
    · simp only [Act.put, List.setIfInBounds_toArray, List.set_cons_zero, List.set_cons_succ, i64_w, i32_w]
      rfl
    refine pure_ (i := 5) (N := some 86) (v := ?_) (a' := ?_) #[true, true, true, true, true, true, false, false, false] rfl rfl (any_of HT_.out (by kernel_rfl)) (fun _ _ _ h => h) (Or.inl ⟨by rfl, ?_⟩) ?_ ?_
    rotate_left
    · intro w'
      go_simp
      with_reducible rfl
    rotate_left
    · simp only [Act.put, List.setIfInBounds_toArray, List.set_cons_zero, List.set_cons_succ, i64_w, i32_w]
      rfl
    refine pure_ (i := 6) (N := some 87) (v := ?_) (a' := ?_) #[true, true, true, true, true, true, true, false, false] rfl rfl (any_of HT_.out (by kernel_rfl)) (fun _ _ _ h => h) (Or.inl ⟨by rfl, ?_⟩) ?_ ?_
    rotate_left
    · intro w'
      go_simp
      with_reducible rfl
    rotate_left
    · simp only [Act.put, List.setIfInBounds_toArray, List.set_cons_zero, List.set_cons_succ, i64_w, i32_w]
      rfl
    refine pure_ (i := 7) (N := some 16) (v := ?_) (a' := ?_) #[true, true, true, true, true, true, true, true, false] rfl rfl (any_of HT_.out (by kernel_rfl)) (fun _ _ _ h => h) (Or.inl ⟨by rfl, ?_⟩) ?_ ?_
    rotate_left
    · intro w'
      go_simp
      with_reducible rfl
    rotate_left
    · simp only [Act.put, List.setIfInBounds_toArray, List.set_cons_zero, List.set_cons_succ, i64_w, i32_w]
      rfl
    refine pure_ (i := 8) (N := some 17) (v := ?_) (a' := ?_) #[true, true, true, true, true, true, true, true, true] rfl rfl (any_of HT_.out (by kernel_rfl)) (fun _ _ _ h => h) (Or.inl ⟨by rfl, ?_⟩) ?_ ?_
    rotate_left
    · intro w'
      go_simp
      with_reducible rfl
    rotate_left
    · simp only [Act.put, List.setIfInBounds_toArray, List.set_cons_zero, List.set_cons_succ, i64_w, i32_w]
      rfl
    refine done_ (done_of HT_.out (by kernel_rfl)) ?_
    clear hHeld HT_ HW_
    go_upto_region 19 with (first | (go_at_call 4; (with_reducible refine (laws_at.calls A1 c1 l1 2 6 q _ (Kd.C_below H1.out HB.out) hc1 haq).mono ?_); rintro e wa ⟨rfl, hd⟩; clear cX0 cX1 cX2 cY0 cY1 cY2; have hb := hd.below; clear hd; replace VA := Aside0.mk (Kd.V_below VA.out hb); replace VB := Aside0.mk (Kd.V_below VB.out hb); replace VX := Aside0.mk (Kd.V_below VX.out hb); replace VY := Aside0.mk (Kd.V_below VY.out hb); replace BX := Aside0.mk (blk_below BX.out hb); replace BY := Aside0.mk (blk_below BY.out hb); replace HB := Aside0.mk (HB.out.trans (hb.mono HB.out.size)); clear hb; obtain ⟨cX0, cX1, cX2⟩ := box3 BX.out; obtain ⟨cY0, cY1, cY2⟩ := box3 BY.out))
    go_upto_region 20 with (first
      | (go_at_call 9; (with_reducible refine (atMostS.calls k (wrap64 (q - 1)) _ _ _ (rowB 4) z1 z2 z3 0 _ VB.out hz).mono ?_); rintro e wZc ⟨vv, rfl, hS, hb⟩; clear cX0 cX1 cX2 cY0 cY1 cY2; replace VA := Aside0.mk (Kd.V_below VA.out hb); replace VB := Aside0.mk (Kd.V_below VB.out hb); replace VX := Aside0.mk (Kd.V_below VX.out hb); replace VY := Aside0.mk (Kd.V_below VY.out hb); replace BX := Aside0.mk (blk_below BX.out hb); replace BY := Aside0.mk (blk_below BY.out hb); replace HB := Aside0.mk (HB.out.trans (hb.mono HB.out.size)); clear hb; have VZ := Aside0.mk (Kd.V_bound (V27 (Kd.S_V (base' := 0) hS))); clear hS; obtain ⟨AZ, cZ, ev_⟩ := Kd.V_slice VZ.out; subst ev_; obtain ⟨cX0, cX1, cX2⟩ := box3 BX.out; obtain ⟨cY0, cY1, cY2⟩ := box3 BY.out)
      | ((with_reducible refine gate_dst (N := 19) rfl ?_); refine box_event rfl (N := 19) rfl (cs := #[.int .i64 0, .int .i64 0, .slice none 0 0]) (t := 27) (by go_simp; done) ?_; intro gZ hg_ wZ hbox hbb; clear cX0 cX1 cX2 cY0 cY1 cY2; have GEZ := Aside0.mk (show w.heap.size ≤ gZ by rw [hg_]; exact HB.out.size); replace VA := Aside0.mk (Kd.V_below (Kd.V_mono (ok' := fun k_ => k_ < gZ) (Kd.V_bound VA.out) (fun k_ hk_ => by rw [hg_]; exact hk_.2)) hbb); replace VB := Aside0.mk (Kd.V_below (Kd.V_mono (ok' := fun k_ => k_ < gZ) (Kd.V_bound VB.out) (fun k_ hk_ => by rw [hg_]; exact hk_.2)) hbb); replace VX := Aside0.mk (Kd.V_below (Kd.V_mono (ok' := fun k_ => k_ < gZ) (Kd.V_bound VX.out) (fun k_ hk_ => by rw [hg_]; exact hk_.2)) hbb); replace VY := Aside0.mk (Kd.V_below (Kd.V_mono (ok' := fun k_ => k_ < gZ) (Kd.V_bound VY.out) (fun k_ hk_ => by rw [hg_]; exact hk_.2)) hbb); replace VZ := Aside0.mk (Kd.V_below (Kd.V_mono (ok' := fun k_ => k_ < gZ) (Kd.V_bound VZ.out) (fun k_ hk_ => by rw [hg_]; exact hk_.2)) hbb); have NEXZ := Aside0.mk (show gX ≠ gZ by rw [hg_]; exact Nat.ne_of_lt (blk_lt BX.out)); have NEYZ := Aside0.mk (show gY ≠ gZ by rw [hg_]; exact Nat.ne_of_lt (blk_lt BY.out)); replace BX := Aside0.mk (blk_below BX.out hbb); replace BY := Aside0.mk (blk_below BY.out hbb); replace HB := Aside0.mk (HB.out.trans (hbb.mono HB.out.size)); clear hbb hg_; have BZ := Aside0.mk hbox; clear hbox; obtain ⟨cX0, cX1, cX2⟩ := box3 BX.out; obtain ⟨cY0, cY1, cY2⟩ := box3 BY.out; obtain ⟨cZ0, cZ1, cZ2⟩ := box3 BZ.out)
      | ((with_reducible refine gate_store (t := 27) (p := 19) rfl ?_); have fz0 := blk_frozen BZ.out 0; have fz1 := blk_frozen BZ.out 1; have fz2 := blk_frozen BZ.out 2; refine store_event (t := 27) (p := 19) (v := .tmp 95) (w1 := (((wZ.setCell ⟨gZ, 0, none⟩ (.int .i64 z1)).setCell ⟨gZ, 1, none⟩ (.int .i64 z2)).setCell ⟨gZ, 2, none⟩ (.slice AZ z3.length cZ))) rfl rfl rfl (by go_simp; done) ?_; clear fz0 fz1 fz2; clear cX0 cX1 cX2 cY0 cY1 cY2 cZ0 cZ1 cZ2; intro wZs hw_; obtain ⟨hbk, hkb, hkw⟩ := boxv3 (v0 := .int .i64 z1) (v1 := .int .i64 z2) (v2 := .slice AZ z3.length cZ) BZ.out; rw [← hw_] at hbk hkb hkw; clear hw_; replace VA := Aside0.mk (Kd.V_kept VA.out hkb (fun k_ hk_ hs_ => Nat.ne_of_lt hk_ hs_)); replace VB := Aside0.mk (Kd.V_kept VB.out hkb (fun k_ hk_ hs_ => Nat.ne_of_lt hk_ hs_)); replace VX := Aside0.mk (Kd.V_kept VX.out hkb (fun k_ hk_ hs_ => Nat.ne_of_lt hk_ hs_)); replace VY := Aside0.mk (Kd.V_kept VY.out hkb (fun k_ hk_ hs_ => Nat.ne_of_lt hk_ hs_)); replace VZ := Aside0.mk (Kd.V_kept VZ.out hkb (fun k_ hk_ hs_ => Nat.ne_of_lt hk_ hs_)); replace BX := Aside0.mk (blk_kept BX.out hkb (fun h_ => NEXZ.out h_)); replace BY := Aside0.mk (blk_kept BY.out hkb (fun h_ => NEYZ.out h_)); replace HB := Aside0.mk (hkw _ HB.out GEZ.out); replace BZ := Aside0.mk hbk; clear hbk hkb hkw; obtain ⟨cX0, cX1, cX2⟩ := box3 BX.out; obtain ⟨cY0, cY1, cY2⟩ := box3 BY.out; obtain ⟨cZ0, cZ1, cZ2⟩ := box3 BZ.out))
    have hbd := below_drew (Below.refl wZs.heap.size wZs)
    clear cX0 cX1 cX2 cY0 cY1 cY2 cZ0 cZ1 cZ2
    replace VA := Aside0.mk (Kd.V_below VA.out hbd)
    replace VB := Aside0.mk (Kd.V_below VB.out hbd)
    replace VX := Aside0.mk (Kd.V_below VX.out hbd)
    replace VY := Aside0.mk (Kd.V_below VY.out hbd)
    replace VZ := Aside0.mk (Kd.V_below VZ.out hbd)
    replace BX := Aside0.mk (blk_below BX.out hbd)
    replace BY := Aside0.mk (blk_below BY.out hbd)
    replace BZ := Aside0.mk (blk_below BZ.out hbd)
    replace HB := Aside0.mk (HB.out.trans (hbd.mono HB.out.size))
    obtain ⟨cX0, cX1, cX2⟩ := box3 BX.out
    obtain ⟨cY0, cY1, cY2⟩ := box3 BY.out
    obtain ⟨cZ0, cZ1, cZ2⟩ := box3 BZ.out
    clear hbd
    generalize hw9 : wZs.drew = w10_20 at *
    refine start_ (n := 9) (S := fun w' => w'.cell? ⟨gZ, 0, none⟩ = some (.int .i64 z1) ∧ w'.cell? ⟨gZ, 1, none⟩ = some (.int .i64 z2) ∧ w'.cell? ⟨gZ, 2, none⟩ = some (.slice AZ z3.length cZ)) (ds := []) #[false, false, false, false, false, false, false, false, false] (by kernel_rfl) rfl rfl (by rw [hw9]; exact ⟨cZ0, cZ1, cZ2⟩) (fun hHeld => ?_)
    refine with_tabW fc20_tab fc20_bits (fun HT_ HW_ => ?_)
    rw [hw9] at hHeld ⊢
    clear hw9
    refine take_ (i := 0) (N := some 98) (v := ?_) (a' := ?_) #[true, false, false, false, false, false, false, false, false] rfl rfl (take_ofW HT_.out HW_.out (by kernel_rfl)) (fun _ _ _ h => h) (Or.inl ⟨by rfl, ?_⟩) hHeld ?_ ?_
    rotate_left
    · rintro w' ⟨s0, s1, s2⟩
      go_simp
      with_reducible rfl
    rotate_left
    · simp only [Act.put, List.setIfInBounds_toArray, List.set_cons_zero, List.set_cons_succ, i64_w, i32_w]
      rfl
    refine pure_ (i := 1) (N := some 99) (v := ?_) (a' := ?_) #[true, true, false, false, false, false, false, false, false] rfl rfl (any_of HT_.out (by kernel_rfl)) (fun _ _ _ h => h) (Or.inl ⟨by rfl, ?_⟩) ?_ ?_
    rotate_left
    · intro w'
      go_simp
      with_reducible rfl
    rotate_left
    · simp only [Act.put, List.setIfInBounds_toArray, List.set_cons_zero, List.set_cons_succ, i64_w, i32_w]
      rfl
    refine one_ (i := 2) (N := some 100) #[true, true, true, false, false, false, false, false, false] rfl rfl (one_of HT_.out (by kernel_rfl)) (by decide) (fun K hK => ?_)
    refine call_ 8 #[.int .i64 m, .int .i64 4] (by rfl) rfl ?q20_hrun2 ?q20_h2
    case q20_hrun2 =>
      have he := enters_of Try.func8 (by kernel_rfl) rfl
      unfold execOp
      simp [resolve, Deferred.ofValue, invoke, Act.eval, he]
    refine (laws_values.calls k m 4 vs _ hvs).mono ?_
    rintro e wv ⟨vv, rfl, hV, hb⟩
    refine ⟨_, rfl, ?_⟩
    obtain ⟨Av, cv, ev_⟩ := Kd.R_slice hV
    subst ev_
    have HV := Aside0.mk hV
    clear hV
    clear cX0 cX1 cX2 cY0 cY1 cY2 cZ0 cZ1 cZ2
    replace VA := Aside0.mk (Kd.V_below VA.out hb)
    replace VB := Aside0.mk (Kd.V_below VB.out hb)
    replace VX := Aside0.mk (Kd.V_below VX.out hb)
    replace VY := Aside0.mk (Kd.V_below VY.out hb)
    replace VZ := Aside0.mk (Kd.V_below VZ.out hb)
    replace BX := Aside0.mk (blk_below BX.out hb)
    replace BY := Aside0.mk (blk_below BY.out hb)
    replace BZ := Aside0.mk (blk_below BZ.out hb)
    replace HB := Aside0.mk (HB.out.trans (hb.mono HB.out.size))
    obtain ⟨cX0, cX1, cX2⟩ := box3 BX.out
    obtain ⟨cY0, cY1, cY2⟩ := box3 BY.out
    obtain ⟨cZ0, cZ1, cZ2⟩ := box3 BZ.out
    clear hb
    refine hK.out _ _ ⟨cZ0, cZ1, cZ2⟩ (fun hHeld => ?_)
    clear hK K
    refine norm_ (a' := ?_) ?_ ?_
    rotate_left
    · show Act.put _ (some 100) _ = _
      simp only [Act.put, List.setIfInBounds_toArray, List.set_cons_zero, List.set_cons_succ, i64_w, i32_w]
      rfl
    refine one_ (i := 3) (N := some 101) #[true, true, true, true, false, false, false, false, false] rfl rfl (one_of HT_.out (by kernel_rfl)) (by decide) (fun K hK => ?_)
    refine call_ 7 #[.agg #[.int .i64 z1, .int .i64 z2, .slice AZ z3.length cZ], .slice Av vs.length cv] (by rfl) rfl ?q20_hrun3 ?q20_h3
    case q20_hrun3 =>
      have he := enters_of Try.func7 (by kernel_rfl) rfl
      unfold execOp
      simp [resolve, Deferred.ofValue, invoke, Act.eval, he]
    refine (impl_EvalEx.calls k z1 z2 AZ cZ z3 Av cv vs _ 0 _ (Kd.V_reads' VZ.out).2.2 (Kd.V_reads' VZ.out).2.1 (Kd.R_reads' HV.out).2.2 (Kd.R_reads' HV.out).2.1 hu).mono ?_
    rintro e we ⟨rfl, hb⟩
    refine ⟨_, rfl, ?_⟩
    clear HV
    clear cX0 cX1 cX2 cY0 cY1 cY2 cZ0 cZ1 cZ2
    replace VA := Aside0.mk (Kd.V_below VA.out hb)
    replace VB := Aside0.mk (Kd.V_below VB.out hb)
    replace VX := Aside0.mk (Kd.V_below VX.out hb)
    replace VY := Aside0.mk (Kd.V_below VY.out hb)
    replace VZ := Aside0.mk (Kd.V_below VZ.out hb)
    replace BX := Aside0.mk (blk_below BX.out hb)
    replace BY := Aside0.mk (blk_below BY.out hb)
    replace BZ := Aside0.mk (blk_below BZ.out hb)
    replace HB := Aside0.mk (HB.out.trans (hb.mono HB.out.size))
    obtain ⟨cX0, cX1, cX2⟩ := box3 BX.out
    obtain ⟨cY0, cY1, cY2⟩ := box3 BY.out
    obtain ⟨cZ0, cZ1, cZ2⟩ := box3 BZ.out
    clear hb
    refine hK.out _ _ ⟨cZ0, cZ1, cZ2⟩ (fun hHeld => ?_)
    clear hK K
    refine norm_ (a' := ?_) ?_ ?_
    rotate_left
    · show Act.put _ (some 101) _ = _
      simp only [Act.put, List.setIfInBounds_toArray, List.set_cons_zero, List.set_cons_succ, i64_w, i32_w]
      rfl
    refine pure_ (i := 4) (N := some 97) (v := ?_) (a' := ?_) #[true, true, true, true, true, false, false, false, false] rfl rfl (any_of HT_.out (by kernel_rfl)) (fun _ _ _ h => h) (Or.inl ⟨by rfl, ?_⟩) ?_ ?_
    rotate_left
    · intro w'
      go_simp
      with_reducible rfl
    rotate_left
    · simp only [Act.put, List.setIfInBounds_toArray, List.set_cons_zero, List.set_cons_succ, i64_w, i32_w]
      rfl
    refine pure_ (i := 5) (N := some 102) (v := ?_) (a' := ?_) #[true, true, true, true, true, true, false, false, false] rfl rfl (any_of HT_.out (by kernel_rfl)) (fun _ _ _ h => h) (Or.inl ⟨by rfl, ?_⟩) ?_ ?_
    rotate_left
    · intro w'
      go_simp
      with_reducible rfl
    rotate_left
    · simp only [Act.put, List.setIfInBounds_toArray, List.set_cons_zero, List.set_cons_succ, i64_w, i32_w]
      rfl
    refine pure_ (i := 6) (N := some 103) (v := ?_) (a' := ?_) #[true, true, true, true, true, true, true, false, false] rfl rfl (any_of HT_.out (by kernel_rfl)) (fun _ _ _ h => h) (Or.inl ⟨by rfl, ?_⟩) ?_ ?_
    rotate_left
    · intro w'
      go_simp
      with_reducible rfl
    rotate_left
    · simp only [Act.put, List.setIfInBounds_toArray, List.set_cons_zero, List.set_cons_succ, i64_w, i32_w]
      rfl
    refine pure_ (i := 7) (N := some 21) (v := ?_) (a' := ?_) #[true, true, true, true, true, true, true, true, false] rfl rfl (any_of HT_.out (by kernel_rfl)) (fun _ _ _ h => h) (Or.inl ⟨by rfl, ?_⟩) ?_ ?_
    rotate_left
    · intro w'
      go_simp
      with_reducible rfl
    rotate_left
    · simp only [Act.put, List.setIfInBounds_toArray, List.set_cons_zero, List.set_cons_succ, i64_w, i32_w]
      rfl
    refine pure_ (i := 8) (N := some 22) (v := ?_) (a' := ?_) #[true, true, true, true, true, true, true, true, true] rfl rfl (any_of HT_.out (by kernel_rfl)) (fun _ _ _ h => h) (Or.inl ⟨by rfl, ?_⟩) ?_ ?_
    rotate_left
    · intro w'
      go_simp
      with_reducible rfl
    rotate_left
    · simp only [Act.put, List.setIfInBounds_toArray, List.set_cons_zero, List.set_cons_succ, i64_w, i32_w]
      rfl
    refine done_ (done_of HT_.out (by kernel_rfl)) ?_
    clear hHeld HT_ HW_
    go_upto_region 22 with fail
    go_wp2
    go_ret
    exact ⟨by simp; exact Iff.rfl, HB.out⟩
end Go.Proofs.Ytpcgepealdpinaa.PFnCompares
