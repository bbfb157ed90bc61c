/- WRITTEN BY A PROGRAM OF THIS SESSION (wip/xprint) OVER THE KIT's PRINT, FOR THIS CLAIM: for Go functions that the law reaches, one Lean function each and the proof that Go's call comes to its answer. No conditions but those that each theorem names. -/
import Derived.Test.YtelfahcjeldliaaPFnExactRatx0
import Derived.Test.YtelfahcjeldliaaPFnExactRatx5
namespace Go.Proofs.Ytelfahcjeldliaa.PFnExactRat
open Go.RowKit Go.Proofs.YtelfahcjeldliaaW.PrintWords Go.Proofs.YtelfahcjeldliaaW.PrintLast Go.Proofs.YtelfahcjeldliaaW.PrintMore
attribute [local go_sem] max2_int min2_int max_two min_two max_three min_three max_four min_four   -- for this text's walks alone
set_option linter.unusedVariables false
set_option linter.unusedSimpArgs false

/-! ### slices_Concat_int_int: function 86 -/
set_option maxHeartbeats 800000 in
set_option maxRecDepth 100000 in
theorem grow_any (n : Int) (w : World) (h0 : 0 < n) (h1 : n ≤ 1099511627776) :
    Calls Try.prog 117 #[.slice none 0 0, .int .i64 n] w fun e W' => ∃ v, e = .returned v ∧ Kd.R (Kd.int .i64) 3 W' w.heap.size (fun _ => True) v [] ∧ Below w.heap.size w W' := by
  have e1 : IntKind.i64.wrap n = n := IntWalk.i64_in _ (by omega)
  have hh : ¬ n < 0 := by omega
  go_enter Try.func117, Try.ntmps117
  go_wp2_with ((with_reducible refine gate_builtin (b := .append) (xs := #[.tmp 20, .tmp 21]) rfl ?_); at_builtin; refine Kd.R_append_zeros (Kd.int .i64) (w0 := w) w.heap.size rfl (.tmp 20) (.tmp 21) 37 3 3 (.int .i64 0) 8 rfl Try.underlying37 (k := .i64) Try.underlying3 info3 rfl (by decide) (by omega) (.slice none 0 0) [] (0 : Int) (kx := .i64) n (fun _ => True) rfl rfl rfl (fun _ _ => trivial) (Kd.R_nil _ _ _ _ _) (by omega) (Below.refl _ _) (Nat.le_refl _) (by simp; omega) ?_; intro v1 w1 ho hb hg hat; obtain ⟨A1, c1, e1⟩ := Kd.R_slice ho; subst e1; have HO := Aside0.mk (Kd.R_take ho (m := 0) (Nat.zero_le _)); have HB := Aside0.mk hb; clear ho hb hg hat)
  go_ret
  exact ⟨_, rfl, HO.out, HB.out⟩
theorem flat_take (ls : List (List Int)) (i : Nat) (h : i < ls.length) : (ls.take (i + 1)).flatten = (ls.take i).flatten ++ ls.getD i [] := by
  rw [List.take_succ_eq_append_getElem h, List.flatten_append, List.getD_eq_getElem?_getD, List.getElem?_eq_getElem h]
  simp
theorem flat_len (ls : List (List Int)) : ∀ i : Nat, (ls.take i).flatten.length ≤ ls.flatten.length := fun i => by
  conv => rhs; rw [← List.take_append_drop i ls, List.flatten_append, List.length_append]
  exact Nat.le_add_right _ _
set_option maxHeartbeats 1600000 in
set_option maxRecDepth 100000 in
theorem concat_any (A : Option Addr) (c : Nat) (ls : List (List Int)) (w : World) (hC : Kd.C (Kd.slice 3 (Kd.int .i64)) w A ls.length ls) (h0 : 0 < ls.flatten.length) (h1 : ls.flatten.length ≤ 1073741824) :
    Calls Try.prog 86 #[.slice A ls.length c] w fun e W' => ∃ v, e = .returned v ∧ Kd.R (Kd.int .i64) 3 W' w.heap.size (fun _ => True) v ls.flatten ∧ Below w.heap.size w W' := by
  have HC := Aside0.mk hC
  have hmax : ls.length ≤ 9223372036854775807 := Kd.C_max hC
  have H1 := Aside0.mk h1
  have H0 := Aside0.mk h0
  clear hC h1 h0
  go_enter Try.func86, Try.ntmps86
  go_wp2
  go_loopg [3, 11] ls.length (fun gg v3 v11 wr => ∃ (kk : Nat), v3 = .int .i64 ((ls.take kk).flatten.length : Int) ∧ v11 = .int .i64 kk ∧ kk ≤ ls.length ∧ ls.length - kk ≤ gg ∧ w = wr)
  case atStart => exact ⟨0, by simp, rfl, Nat.zero_le _, by omega, rfl⟩
  case round =>
    obtain ⟨kk, rfl, rfl, hk, hg, rfl⟩ := hrel
    by_cases hlt : kk < ls.length
    · have hltz : (kk : Int) < (ls.length : Int) := by omega
      have h0z : (0 : Int) ≤ (kk : Int) := by omega
      obtain ⟨ad, A2, c2, ea, hx, -, -⟩ := at_L1 HC.out (kk : Int) h0z hltz
      subst ea
      rw [Int.toNat_natCast] at hx
      have hrd : rd_L1 ls (kk : Int) = ls.getD kk [] := by unfold rd_L1; rw [Int.toNat_natCast]
      rw [hrd] at hx
      have hf := flat_take ls kk hlt
      have hl1 := flat_len ls (kk + 1)
      have hl2 : (ls.take (kk + 1)).flatten.length = (ls.take kk).flatten.length + (ls.getD kk []).length := by rw [hf, List.length_append]
      have hb := H1.out
      obtain ⟨m, hm⟩ : ∃ m, (ls.take kk).flatten.length = m := ⟨_, rfl⟩
      obtain ⟨p, hp⟩ : ∃ p, (ls.getD kk []).length = p := ⟨_, rfl⟩
      rw [hm, hp] at hl2
      rw [hp] at hx
      rw [hm]
      have HL2 := Aside0.mk hl2
      have ew : IntKind.i64.wrap ((kk : Int) + 1) = ((kk + 1 : Nat) : Int) := IntWalk.i64_in _ (by omega)
      have ew2 : IntKind.i64.wrap ((m : Int) + (p : Int)) = ((m + p : Nat) : Int) := IntWalk.i64_in _ (by omega)
      have hnn : ¬ ((m + p : Nat) : Int) < 0 := by omega
      clear hf hl1 hl2 hb hm hp hrd
      go_wp2
      go_roundg (gk - 1)
      case measure => omega
      case rel => exact ⟨kk + 1, by rw [HL2.out, Int.natCast_add], rfl, by omega, by omega, rfl⟩
    · obtain rfl : kk = ls.length := by omega
      rw [List.take_length]
      have hgr := grow_any (ls.flatten.length : Int) w (by have := H0.out; omega) (by have := H1.out; omega)
      obtain ⟨m, hm⟩ : ∃ m, ls.flatten.length = m := ⟨_, rfl⟩
      rw [hm] at hgr
      rw [hm]
      go_wp2_with (go_at_call 117; refine hgr.mono ?_; rintro e w2 ⟨v, rfl, hR, hb⟩; clear hgr; have HR := Aside0.mk hR; have HB := Aside0.mk hb; clear hR hb)
      go_loopg [6, 27] ls.length (fun gg v6 v27 wr2 => ∃ (kk : Nat), v27 = .int .i64 kk ∧ kk ≤ ls.length ∧ ls.length - kk ≤ gg ∧ Aside0 (Kd.R (Kd.int .i64) 3 wr2 w.heap.size (fun _ => True) v6 (ls.take kk).flatten) ∧ Aside0 (Below w.heap.size w wr2))
      case atStart => exact ⟨0, rfl, Nat.zero_le _, by omega, by simpa using HR, HB⟩
      case round =>
        clear HR HB
        obtain ⟨kk, rfl, hk, hg, HR, HB⟩ := hrel
        by_cases hlt2 : kk < ls.length
        · have hltz : (kk : Int) < (ls.length : Int) := by omega
          have h0z : (0 : Int) ≤ (kk : Int) := by omega
          obtain ⟨ad, A2, c2, ea, hx, hlc, hC2⟩ := at_L1 HC.out (kk : Int) h0z hltz
          subst ea
          rw [Int.toNat_natCast] at hx
          have hrd : rd_L1 ls (kk : Int) = ls.getD kk [] := by unfold rd_L1; rw [Int.toNat_natCast]
          have HF := Aside0.mk (flat_take ls kk hlt2)
          have HL := Aside0.mk (flat_len ls (kk + 1))
          rw [hrd] at hx hC2
          have HC2 := Aside0.mk (Kd.C_below hC2 HB.out)
          have hx2 := (HB.out.cell (World.block_lt_of_cell? w _ hx)).trans hx
          obtain ⟨q, hq⟩ : ∃ q, ls.getD kk [] = q := ⟨_, rfl⟩
          rw [hq] at HF HC2 hx2
          have ew : IntKind.i64.wrap ((kk : Int) + 1) = ((kk + 1 : Nat) : Int) := IntWalk.i64_in _ (by omega)
          clear hx hC2 hrd hq hlc
          go_wp2_with ((with_reducible refine gate_builtin (b := .append) (xs := #[.tmp 31, .tmp 32]) rfl ?_); at_builtin; refine Kd.R_append_rows (Kd.int .i64) (w0 := w) w.heap.size rfl (.tmp 31) (.tmp 32) 37 3 (.int .i64 0) 8 rfl Try.underlying37 info3 rfl (by decide) (by omega) _ (ls.take kk).flatten q _ _ _ (fun _ => True) (fun _ => False) rfl rfl ?aO ?aR (fun _ _ h => h) (fun _ h => h.elim) ?aF ?aB ?aS ?aL ?_; (case aR => exact HC2.out); (case aB => exact HB.out); (case aF => exact (fun _ _ => trivial)); (case aO => exact HR.out); (case aS => exact below_size HB.out); (case aL => have h1_ := HL.out; have h2_ := H1.out; rw [HF.out, List.length_append] at h1_; omega); intro v1 w7 ho hb hg2 hat; rw [← HF.out] at ho; have n0_ := Aside0.mk ho; have n1_ := Aside0.mk hb; clear ho hb hg2 hat HR HB)
          go_roundg (gk - 1)
          case measure => omega
          case rel => exact ⟨kk + 1, rfl, by omega, by omega, n0_, n1_⟩
        · obtain rfl : kk = ls.length := by omega
          have hr := HR.out
          rw [List.take_length] at hr
          go_wp2
          go_ret
          exact ⟨_, rfl, hr, HB.out⟩

/-! ### slices_Clone_int_int: function 113 -/
set_option maxHeartbeats 4000000 in
set_option maxRecDepth 100000 in
theorem cloneI_any (A : Option Addr) (c : Nat) (l : List Int) (W : World) (hl : Kd.C (Kd.int .i64) W A l.length l) (hp : 0 < l.length) (hn : l.length ≤ 4096) :
    Calls Try.prog 113 #[.slice A l.length c] W fun e W' => ∃ v, e = .returned v ∧ Kd.R (Kd.int .i64) 3 W' W.heap.size (fun _ => True) v l ∧ Below W.heap.size W W' := by
  obtain ⟨ad, ea, -⟩ := Kd.at_int hl 0 (by omega) (by omega)
  subst ea
  have HL := Aside0.mk hl
  have hq := fun (w : World) => Lib.run_eql_slice_nil w 37 3 (some ad) l.length c 0 0 Try.underlying37
  clear hl
  go_enter Try.func113, Try.ntmps113
  go_wp2_with (first
    | ((with_reducible refine gate_dst (N := 5) rfl ?_); refine Kd.R_lit (Kd.int .i64) _ 3 ?hg (N := 5) ?hd (xs := ([] : List Int)) (inner := []) (ok := fun _ => True) (okp := fun _ => True) ?hr ?hp (fun _ hk => hk) trivial (Below.refl _ _) (Nat.le_refl _) (by simp) ?_; (case hd => rfl); (case hg => rfl); (case hr => first | (go_simp; done) | (go_simp; rfl)); (case hp => exact (Reps.none _ _)); intro v1 w3 ho hb hg_ hnew_; clear hg_ hnew_; have HR := Aside0.mk ho; have HB := Aside0.mk hb; clear ho hb)
    | ((with_reducible refine gate_builtin (b := .append) (xs := #[.tmp 5, .tmp 6]) rfl ?_); at_builtin; refine Kd.R_append_rows (Kd.int .i64) (w0 := W) W.heap.size rfl (.tmp 5) (.tmp 6) 37 3 (.int .i64 0) 8 rfl Try.underlying37 info3 rfl (by decide) (by omega) v1 [] l _ _ _ (fun _ => True) (fun _ => False) rfl rfl ?aO ?aR (fun _ _ h => h) (fun _ h => h.elim) ?aF ?aB ?aS ?aL ?_; (case aR => exact Kd.C_below HL.out HB.out); (case aB => exact HB.out); (case aF => exact (fun _ _ => trivial)); (case aO => exact HR.out); (case aS => exact below_size HB.out); (case aL => simp; omega); intro v2 w7 ho hb hg hat; have HR2 := Aside0.mk ho; have HB2 := Aside0.mk hb; clear ho hb hg hat))
  go_ret
  exact ⟨v2, rfl, HR2.out, HB2.out⟩

-- NOT PRINTED: function 118 (slices_DeleteFunc_int_int)

/-! ### impl_without: function 87 -/
theorem without_fn (x y : Int) (B : Nat) (W : World) (hB : W.cell? ⟨B, 0, none⟩ = some (.int .i64 x)) :
    Calls Try.prog 119 #[.int .i64 y, .pointer (some ⟨B, 0, none⟩)] W fun e W' => e = .returned (.bool (y == x)) ∧ W' = W := by
  go_enter Try.func119, Try.ntmps119
  go_wp2
  go_ret
  exact ⟨rfl, rfl⟩
set_option maxHeartbeats 1600000 in
theorem indexW_any (x : Int) (B : Nat) (A : Option Addr) (c : Nat) (l : List Int) (W : World) (hB : W.cell? ⟨B, 0, none⟩ = some (.int .i64 x)) (hl : Kd.C (Kd.int .i64) W A l.length l) :
    Calls Try.prog 126 #[.slice A l.length c, .func (.func 119) #[] #[.pointer (some ⟨B, 0, none⟩)]] W fun e W' => e = .returned (.int .i64 (idxL x l 0)) ∧ W' = W := by
  have HL := Aside0.mk hl
  have HX := Aside0.mk hB
  have hmax : l.length ≤ 9223372036854775807 := Kd.C_max hl
  clear hl hB
  obtain ⟨r, hr⟩ : ∃ r, idxL x l 0 = r := ⟨_, rfl⟩
  rw [hr]
  have H' : Aside0 (idxL x (l.drop 0) 0 = r) := ⟨by rw [List.drop_zero]; exact hr⟩
  clear hr
  go_enter Try.func126, Try.ntmps126
  go_wp2
  go_loopg [8] l.length (fun gg v8 wr => ∃ (kk : Nat), v8 = .int .i64 kk ∧ kk ≤ l.length ∧ l.length - kk ≤ gg ∧ Aside0 (idxL x (l.drop kk) kk = r) ∧ wr = W)
  case atStart => exact ⟨0, rfl, Nat.zero_le _, by omega, H', rfl⟩
  case round =>
    clear H'
    obtain ⟨kk, rfl, hk, hg, HA, rfl⟩ := hrel
    by_cases hlt : kk < l.length
    · have hltz : (kk : Int) < (l.length : Int) := by omega
      have h0z : (0 : Int) ≤ (kk : Int) := by omega
      obtain ⟨ad, ea, hx⟩ := Kd.at_int HL.out (kk : Int) h0z hltz
      subst ea
      rw [Int.toNat_natCast] at hx
      have hrd : rd l (kk : Int) = l[kk] := by unfold rd; simp [List.getD, hlt]
      have hA := HA.out
      rw [List.drop_eq_getElem_cons hlt, idxL, ← hrd] at hA
      have ew : IntKind.i64.wrap ((kk : Int) + 1) = ((kk + 1 : Nat) : Int) := IntWalk.i64_in _ (by omega)
      clear hrd HA
      generalize rd l (kk : Int) = y at hx hA
      have hfn := without_fn x y B wr HX.out
      by_cases h0 : x = y
      · rw [if_pos h0] at hA
        subst h0
        subst hA
        have he : (x == x) = true := by simp
        rw [he] at hfn
        go_wp2_with (go_at_call 119; refine hfn.mono ?_; rintro e w' ⟨rfl, rfl⟩)
        go_ret
        exact ⟨rfl, rfl⟩
      · rw [if_neg h0] at hA
        have he : (y == x) = false := beq_eq_false_iff_ne.mpr (fun e => h0 e.symm)
        rw [he] at hfn
        have HA2 := Aside0.mk hA
        clear hA
        go_wp2_with (go_at_call 119; refine hfn.mono ?_; rintro e w' ⟨rfl, rfl⟩)
        go_roundg (gk - 1)
        case measure => omega
        case rel => exact ⟨kk + 1, rfl, by omega, by omega, HA2, rfl⟩
    · have hA := HA.out
      obtain rfl : kk = l.length := by omega
      rw [List.drop_length, idxL] at hA
      subst hA
      go_wp2
      go_ret
      exact ⟨rfl, rfl⟩
theorem idxL_at (x : Int) : ∀ (l : List Int) (i : Nat), 0 ≤ idxL x l i → ∃ j : Nat, idxL x l i = ((i + j : Nat) : Int) ∧ j < l.length ∧ (l.take (j + 1)).filter (fun y => y != x) = l.take j
  | [], i, h => by rw [idxL] at h; omega
  | y :: r, i, h => by
    rw [idxL] at h ⊢
    by_cases hy : x = y
    · rw [if_pos hy]
      exact ⟨0, by omega, by simp, by subst hy; simp⟩
    · rw [if_neg hy] at h ⊢
      obtain ⟨j, h1, h2, h3⟩ := idxL_at x r (i + 1) h
      refine ⟨j + 1, by omega, by simpa using h2, ?_⟩
      have hne : (y != x) = true := bne_iff_ne.2 (fun e => hy e.symm)
      rw [List.take_succ_cons, List.filter_cons, if_pos hne, h3, List.take_succ_cons]
theorem R_clear {base b n cap : Nat} {W : World} : ∀ (m o : Nat) (ys : List Int) (wr : World), Kd.R (Kd.int .i64) 3 wr base (fun _ => True) (.slice (some ⟨b, 0, none⟩) n cap) ys → o + m ≤ ys.length → Below b W wr → ∃ zs : List Int, zs.length = ys.length ∧ zs.take o = ys.take o ∧ Kd.R (Kd.int .i64) 3 (wr.setCells b o (List.replicate m (.int .i64 0))) base (fun _ => True) (.slice (some ⟨b, 0, none⟩) n cap) zs ∧ Below b W (wr.setCells b o (List.replicate m (.int .i64 0)))
  | 0, o, ys, wr, hR, _, hB => ⟨ys, rfl, rfl, hR, hB⟩
  | m + 1, o, ys, wr, hR, hm, hB => by
    have h1 := (Kd.R_putg hR (o : Int) 0).1
    rw [Int.toNat_natCast] at h1
    obtain ⟨zs, z1, z2, z3, z4⟩ := R_clear m (o + 1) (ys.set o 0) (wr.setCell ⟨b, o, none⟩ (.int .i64 0)) h1 (by simp; omega) (hB.setCell (Nat.le_refl _) _)
    refine ⟨zs, by simpa using z1, ?_, z3, z4⟩
    have h2 := congrArg (List.take o) z2
    rw [List.take_take, List.take_take, Nat.min_eq_left (by omega)] at h2
    rw [h2, List.take_set, List.set_eq_of_length_le (by simp; omega)]
theorem keepBut_of {W W' : World} {b : Nat} (h : ∀ i, i < W.heap.size → i ≠ b → W'.heap[i]? = W.heap[i]?) (hs : W.heap.size ≤ W'.heap.size) : KeepBut W W' b none := ⟨hs, fun i hi hne _ => h i hi hne⟩
theorem keep_cells {W : World} {b : Nat} : ∀ (vs : List Value) (o : Nat) (W2 : World), KeepBut W W2 b none → KeepBut W (W2.setCells b o vs) b none
  | [], _, _, h => h
  | v :: r, o, W2, h => keep_cells r (o + 1) _ (KeepBut.set_ h o v)
set_option maxHeartbeats 1600000 in
set_option maxRecDepth 100000 in
theorem delW_any (x : Int) (B b cap base : Nat) (l : List Int) (W : World) (hB : W.cell? ⟨B, 0, none⟩ = some (.int .i64 x)) (hBb : B ≠ b) (hR : Kd.R (Kd.int .i64) 3 W base (fun _ => True) (.slice (some ⟨b, 0, none⟩) l.length cap) l) (hx : 0 ≤ idxL x l 0) (hn : l.length ≤ 4096) :
    Calls Try.prog 118 #[.slice (some ⟨b, 0, none⟩) l.length cap, .func (.func 119) #[] #[.pointer (some ⟨B, 0, none⟩)]] W fun e W' => e = .returned (.slice (some ⟨b, 0, none⟩) (l.filter fun y => y != x).length cap) ∧ Kd.R (Kd.int .i64) 3 W' base (fun _ => True) (.slice (some ⟨b, 0, none⟩) (l.filter fun y => y != x).length cap) (l.filter fun y => y != x) ∧ Below b W W' ∧ KeepBut W W' b none := by
  obtain ⟨-, hcap, hC⟩ := Kd.R_reads' hR
  have hidx := indexW_any x B _ cap l W hB hC
  obtain ⟨j, hj1, hj2, hj3⟩ := idxL_at x l 0 hx
  rw [hj1, Nat.zero_add] at hidx
  have HR := Aside0.mk hR
  have HX := Aside0.mk hB
  have HB := Aside0.mk (Below.refl b W)
  have HK := Aside0.mk (KeepBut.refl W b none)
  have HY1 : Aside0 (l.take j = (l.take (j + 1)).filter fun y => y != x) := ⟨hj3.symm⟩
  obtain ⟨res, hres⟩ : ∃ res, (l.filter fun y => y != x) = res := ⟨_, rfl⟩
  rw [hres]
  have HRES := Aside0.mk hres
  have ewj : IntKind.i64.wrap ((j : Int) + 1) = ((j + 1 : Nat) : Int) := IntWalk.i64_in _ (by omega)
  have hne1 : ((j : Int) == -1) = false := beq_eq_false_iff_ne.mpr (by omega)
  clear hR hB hC hx hj1 hj3 hres
  go_enter Try.func118, Try.ntmps118
  go_wp2_with (go_at_call 126; refine hidx.mono ?_; rintro e w' ⟨rfl, hq⟩; have hq2 := hq.symm; clear hq hidx; subst hq2)
  go_loopg [5, 6] l.length (fun gg v5 v6 wr => ∃ (ii kk : Nat) (ys : List Int), v5 = .int .i64 ii ∧ v6 = .int .i64 kk ∧ ii < kk ∧ kk ≤ l.length ∧ l.length - kk ≤ gg ∧ ys.length = l.length ∧ Aside0 (ys.take ii = (l.take kk).filter fun y => y != x) ∧ Aside0 (ys.drop kk = l.drop kk) ∧ Aside0 (Kd.R (Kd.int .i64) 3 wr base (fun _ => True) (.slice (some ⟨b, 0, none⟩) l.length cap) ys) ∧ Aside0 (Below b W wr) ∧ Aside0 (KeepBut W wr b none))
  case atStart => exact ⟨j, j + 1, l, rfl, rfl, by omega, by omega, by omega, rfl, HY1, ⟨rfl⟩, HR, HB, HK⟩
  case round =>
    clear HY1 HR HB HK ewj
    obtain ⟨ii, kk, ys, rfl, rfl, hik, hk, hg, hly, HY1, HY2, HR, HB, HK⟩ := hrel
    by_cases hlt : kk < l.length
    · have hltz : (kk : Int) < (l.length : Int) := by omega
      have h0z : (0 : Int) ≤ (kk : Int) := by omega
      have hiz : (ii : Int) < (l.length : Int) := by omega
      have hi0 : (0 : Int) ≤ (ii : Int) := by omega
      obtain ⟨hcx, hfx⟩ := Kd.R_celln 0 HR.out (kk : Int) h0z hltz
      obtain ⟨hci, hfi⟩ := Kd.R_celln 0 HR.out (ii : Int) hi0 hiz
      rw [Int.toNat_natCast] at hcx hci hfi
      have hyk : rdOf 0 ys (kk : Int) = l[kk] := by
        have h1 := congrArg (fun z : List Int => z[0]?) HY2.out
        simp only [List.getElem?_drop, Nat.add_zero] at h1
        rw [List.getElem?_eq_getElem hlt] at h1
        unfold rdOf
        rw [Int.toNat_natCast, List.getD_eq_getElem?_getD, h1]
        rfl
      rw [hyk] at hcx
      have ew : IntKind.i64.wrap ((kk : Int) + 1) = ((kk + 1 : Nat) : Int) := IntWalk.i64_in _ (by omega)
      have ewi : IntKind.i64.wrap ((ii : Int) + 1) = ((ii + 1 : Nat) : Int) := IntWalk.i64_in _ (by omega)
      have hBx := (HK.out.2 B (World.block_lt_of_cell? W _ HX.out) hBb (by simp))
      have hcB := (World.cell?_of_block (w := W) (a := ⟨B, 0, none⟩) hBx).trans HX.out
      have hfn := without_fn x l[kk] B wr hcB
      have hd2 : ys.drop (kk + 1) = l.drop (kk + 1) := by
        have h1 := congrArg (List.drop 1) HY2.out
        rwa [List.drop_drop, List.drop_drop] at h1
      have htk : (l.take (kk + 1)).filter (fun y => y != x) = ys.take ii ++ (if (l[kk] != x) = true then [l[kk]] else []) := by
        rw [List.take_succ_eq_append_getElem hlt, List.filter_append, ← HY1.out, List.filter_cons, List.filter_nil]
      clear hfx hyk hBx hcB
      generalize l[kk] = y at hcx hfn htk
      by_cases hyx : y = x
      · subst hyx
        have he : (y == y) = true := by simp
        have he2 : (y != y) = false := by simp
        rw [he] at hfn
        rw [he2, if_neg Bool.false_ne_true, List.append_nil] at htk
        have HT := Aside0.mk htk.symm
        have HD := Aside0.mk hd2
        clear htk hd2 HY1 HY2
        go_wp2_with (go_at_call 119; refine hfn.mono ?_; rintro e w' ⟨rfl, hq⟩; have hq2 := hq.symm; clear hq hfn; subst hq2)
        go_roundg (gk - 1)
        case measure => omega
        case rel => exact ⟨ii, kk + 1, ys, rfl, rfl, by omega, by omega, by omega, hly, HT, HD, HR, HB, HK⟩
      · have he : (y == x) = false := beq_eq_false_iff_ne.mpr hyx
        have he2 : (y != x) = true := bne_iff_ne.mpr hyx
        rw [he] at hfn
        rw [he2, if_pos rfl] at htk
        have hput := (Kd.R_putg HR.out (ii : Int) y).1
        rw [Int.toNat_natCast] at hput
        have HR2 := Aside0.mk hput
        have HB2 := Aside0.mk (HB.out.setCell (p := ⟨b, ii, none⟩) (Nat.le_refl _) (.int .i64 y))
        have HK2 := Aside0.mk (KeepBut.set_ HK.out ii (.int .i64 y))
        have HT : Aside0 ((ys.set ii y).take (ii + 1) = (l.take (kk + 1)).filter fun y => y != x) := ⟨by
          rw [htk, List.take_succ_eq_append_getElem (by simp; omega), List.getElem_set_self, List.take_set, List.set_eq_of_length_le (by rw [List.length_take]; exact Nat.min_le_left _ _)]⟩
        have HD : Aside0 ((ys.set ii y).drop (kk + 1) = l.drop (kk + 1)) := ⟨by rw [← hd2, List.drop_set_of_lt (by omega)]⟩
        have hls : (ys.set ii y).length = l.length := by rw [List.length_set]; exact hly
        clear htk hd2 HY1 HY2 hput HR HB HK
        go_wp2_with (go_at_call 119; refine hfn.mono ?_; rintro e w' ⟨rfl, hq⟩; have hq2 := hq.symm; clear hq hfn; subst hq2)
        go_roundg (gk - 1)
        case measure => omega
        case rel => exact ⟨ii + 1, kk + 1, _, rfl, rfl, by omega, by omega, by omega, hls, HT, HD, HR2, HB2, HK2⟩
    · obtain rfl : kk = l.length := by omega
      have hy := HY1.out
      rw [List.take_length, HRES.out] at hy
      have hrl : res.length = ii := by rw [← hy, List.length_take]; omega
      have hcne : ¬ cap = ii := by omega
      have hcl : ∀ ty, (Builtin.clear_ #[37] ty #[.slice (some ⟨b, ii, none⟩) (l.length - ii) (cap - ii)]).run Try.prog wr = .ok (.tuple #[]) (wr.setCells b ii (List.replicate (l.length - ii) (.int .i64 0))) := fun ty =>
        Lib.run_clear_slice wr 37 3 ty (.int .i64 0) Try.underlying37 (fun w => by kernel_rfl) rfl rfl b ii (l.length - ii) (cap - ii) (by omega)
          (fun j hj => by
            have := (Kd.R_celln 0 HR.out ((ii + j : Nat) : Int) (by omega) (by omega)).1
            rw [Int.toNat_natCast] at this
            rw [this]
            rfl)
          (fun j hj => by
            have := (Kd.R_celln 0 HR.out ((ii + j : Nat) : Int) (by omega) (by omega)).2
            rwa [Int.toNat_natCast] at this)
      obtain ⟨zs, z1, z2, z3, z4⟩ := R_clear (W := W) (l.length - ii) ii ys wr HR.out (by omega) HB.out
      have HZ := Aside0.mk (show Kd.R (Kd.int .i64) 3 (wr.setCells b ii (List.replicate (l.length - ii) (.int .i64 0))) base (fun _ => True) (.slice (some ⟨b, 0, none⟩) ii cap) res by
        have := Kd.R_take z3 (m := ii) (by omega)
        rwa [z2, hy] at this)
      have HZB := Aside0.mk z4
      have HZK := Aside0.mk (keep_cells (List.replicate (l.length - ii) (.int .i64 0)) ii wr HK.out)
      have hii0 : (0 : Int) ≤ (ii : Int) := by omega
      have hii1 : (ii : Int) ≤ (l.length : Int) := by omega
      have hii2 : (ii : Int) ≤ (cap : Int) := by omega
      clear z1 z2 z3 z4 hy HR HB HK HY1 HY2
      subst hrl
      go_wp2_with (simp only [hcl])
      go_ret
      exact ⟨rfl, HZ.out, HZB.out, HZK.out⟩
set_option maxHeartbeats 800000 in
set_option maxRecDepth 100000 in
theorem without_any (x : Int) (A : Option Addr) (c : Nat) (l : List Int) (w : World) (hC : Kd.C (Kd.int .i64) w A l.length l) (hx : 0 ≤ idxL x l 0) (hn : l.length ≤ 4096) :
    Calls Try.prog 87 #[.slice A l.length c, .int .i64 x] w fun e W' => ∃ v, e = .returned v ∧ Kd.R (Kd.int .i64) 3 W' w.heap.size (fun _ => True) v (l.filter fun y => y != x) ∧ Below w.heap.size w W' := by
  have hp : 0 < l.length := by
    rcases Nat.eq_zero_or_pos l.length with h | h
    · rw [List.eq_nil_of_length_eq_zero h] at hx
      rw [idxL] at hx
      omega
    · exact h
  have hb1 : Below w.heap.size w (w.alloc (.cells #[.int .i64 x] 3)) := (Below.refl _ _).alloc (Nat.le_refl _) _
  have hW : (w.alloc (.cells #[.int .i64 x] 3)).heap[w.heap.size]? = some (.cells #[.int .i64 x] 3 (0, 0)) := by
    show (w.heap.push _)[w.heap.size]? = _
    simp
  obtain ⟨W1, hW1, BX, HB1⟩ : ∃ W1, w.alloc (.cells #[.int .i64 x] 3) = W1 ∧ W1.heap[w.heap.size]? = some (.cells #[.int .i64 x] 3 (0, 0)) ∧ Below w.heap.size w W1 := ⟨_, rfl, hW, hb1⟩
  have hcl := cloneI_any A c l W1 (Kd.C_below hC HB1) hp hn
  have HW1 := Aside0.mk hW1
  have HBX := Aside0.mk BX
  have HB := Aside0.mk HB1
  clear hb1 hW hW1 BX HB1 hC
  go_enter Try.func87, Try.ntmps87
  go_upto_region 1 with fail
  rw [HW1.out]
  go_wp2_with (first
    | (go_at_call 113; refine hcl.mono ?_; rintro e w2 ⟨v, rfl, hR, hb⟩; clear hcl; obtain ⟨b, cap, ev, hb0, -, -, -⟩ := Kd.R_form hR hp; subst ev; have hbx := blk_below HBX.out hb; have hdel := delW_any x w.heap.size b cap w.heap.size l w2 ((blk_cell hbx 0).trans rfl) (by have := blk_lt HBX.out; omega) (Kd.R_lower hR HB.out.size) hx hn; have HB2 := Aside0.mk (HB.out.trans (hb.mono HB.out.size)); have HLE := Aside0.mk (Nat.le_trans HB.out.size hb0); clear hR hb hb0 hbx)
    | (go_at_call 118; refine hdel.mono ?_; rintro e w3 ⟨rfl, hR3, hb3, -⟩; clear hdel))
  go_ret
  exact ⟨_, rfl, hR3, HB2.out.trans (hb3.mono HLE.out)⟩

end Go.Proofs.Ytelfahcjeldliaa.PFnExactRat
