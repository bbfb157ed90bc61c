/- FnExactCheckProof: for every input the law returns true. The texts that this program's session printed and proved for it, those that the proof uses, laid together. Conditions: the form's own reach alone. -/
import Derived.Test.YtelfahcjeldliaaQFnExactCheckProof2
section
namespace Go.Proofs.Ytelfahcjeldliaa.PFnExactCheckProof
open Go.RowKit Go.Proofs.YtelfahcjeldliaaW.PrintWords Go.Proofs.YtelfahcjeldliaaW.PrintLast Go.Proofs.YtelfahcjeldliaaW.PrintMore
attribute [local go_sem] max2_int min2_int max_two min_two max_three min_three max_four min_four   -- for this text's walks alone
set_option linter.unusedVariables false
set_option linter.unusedSimpArgs false
theorem Rws.open_ {w0 w : World} {base : Nat} {v : Value} {ls : List (List Int)} (h : Rws w0 w base v ls) (h0 : 0 < ls.length) : ∃ q cap xs, v = .slice (some ⟨q, 0, none⟩) ls.length cap ∧ base ≤ q ∧ ls.length ≤ cap ∧ Cells w0 xs ls ∧ (∀ (j : Nat) u, xs[j]? = some u → w.cell? ((⟨q, 0, none⟩ : Addr).add j) = some u) := by
 obtain ⟨xs, hown, hcs⟩ := h
 have hcell := fun g hv => hown.cells (g := g) hv
 rcases hown.2 with ⟨rfl, h1⟩ | ⟨q, cap, cur, rfl, hg, hk, hnc, hcm, hsz, ht⟩
 ·omega
 ·exact ⟨q, cap, xs, rfl, hg, hnc, hcs, hcell q rfl⟩
theorem one_cell (W : World) (v : Value) (t : TypeId) : ∀ (j : Nat) u, ([v] : List Value)[j]? = some u → (W.alloc (.cells #[v] t)).cell? ((⟨W.heap.size, 0, none⟩ : Addr).add j) = some u := by
 intro j u hu
 cases j with
 | zero =>
  obtain rfl : v = u := by simpa using hu
  have hk : (W.alloc (.cells #[v] t)).heap[W.heap.size]? = some (.cells #[v] t (0, 0)) := heap_alloc_new W _
  show (W.alloc (.cells #[v] t)).cell? ⟨W.heap.size, 0, none⟩ = some v
  simp only [World.cell?, hk]
  rfl
 | succ j => simp at hu
def chkS (k : Nat) (a : Int) : List S68 → Nat → List (List Int) → Option (Int × Int)
 | [], i, _ => some ((i : Int), 3)
 | x :: r, i, cs => if x.f0 = true then
   (spec_l03Find.f k cs x.f1).bind fun q => if q < 0 then some ((i : Int), 6) else if q.toNat < cs.length then chkS k a r (i + 1) (cs.eraseIdx q.toNat) else none
  else (spec_l03Rup.f k cs a x.f1).bind fun b => (if b = true then some true else spec_l03Rat.f k cs a x.f1).bind fun d =>
   if d = true then (if x.f1.length = 0 then some ((i : Int), 0) else chkS k a r (i + 1) (cs ++ [x.f1])) else some ((i : Int), 8)
def spec_l03Check.f (k : Nat) (a0_0 : Int) (l0_1 : List (List Int)) (l1 : List S68) : Option (Int × Int) := if l0_1.length ≤ 300 ∧ l1.length ≤ 200 then chkS k a0_0 l1 0 l0_1 else none
def chkS_T : Bool × List (List Nat × List Nat) := (true, [([], []), ([], []), ([], []), ([1, 2], [1, 2]), ([0, 3], [0, 3]), ([], []), ([], []), ([6], [6]), ([5, 7], [5, 7]), ([4, 8, 4], [4, 8]), ([9, 9, 0, 1, 2, 3, 4, 5, 6, 7, 8, 9], [1, 5, 9])])
theorem chkS_tab : rtab .any (opsOf Try.f51 10) = chkS_T := by kernel_rfl
set_option maxHeartbeats 2000000 in
set_option maxRecDepth 100000 in
theorem spec_l03Check.calls (k : Nat) (a0_0 : Int) (A0_1 : Option Addr) (c0_1 : Nat) (l0_1 : List (List Int)) (A1 : Option Addr) (c1 : Nat) (l1 : List S68) (r1 : Int) (r2 : Int) (w : World) (hr0_1 : Kd.C (Kd.slice 3 (Kd.int .i64)) w A0_1 l0_1.length l0_1) (hc0_1 : l0_1.length ≤ c0_1) (hr1 : Kd.C k68 w A1 l1.length l1) (hc1 : l1.length ≤ c1) (h : spec_l03Check.f k a0_0 l0_1 l1 = some (r1, r2)) :
  Calls Try.prog 51 #[.agg #[.int .i64 a0_0, .slice A0_1 l0_1.length c0_1], .slice A1 l1.length c1] w fun e w' => e = .returned (.tuple #[.int .i64 r1, .int .i64 r2]) ∧ Below w.heap.size w w' := by
 have hu30 := Try.underlying30
 have hu68 := Try.underlying68
 have hb0 : Below w.heap.size w (w.alloc (.cells #[.int .i64 a0_0, .slice A0_1 l0_1.length c0_1] 30)) := (Below.refl _ _).alloc (Nat.le_refl _) _
 unfold spec_l03Check.f at h
 by_cases hlen : l0_1.length ≤ 300 ∧ l1.length ≤ 200
 ·rw [if_pos hlen] at h
  have HR0 := Aside0.mk hr0_1
  have HR1 := Aside0.mk hr1
  have HB2 := Aside0.mk hb0
  have H' := Aside0.mk h
  have HL := Aside0.mk hlen
  obtain ⟨g, hg⟩ : ∃ g, w.heap.size = g := ⟨_, rfl⟩
  have hx0 : (w.alloc (.cells #[.int .i64 a0_0, .slice A0_1 l0_1.length c0_1] 30)).cell? ⟨w.heap.size, 0, none⟩ = some (.int .i64 a0_0) := by simp
  have hx1 : (w.alloc (.cells #[.int .i64 a0_0, .slice A0_1 l0_1.length c0_1] 30)).cell? ⟨w.heap.size, 1, none⟩ = some (.slice A0_1 l0_1.length c0_1) := by simp
  have hgs : w.heap.size + 1 ≤ (w.alloc (.cells #[.int .i64 a0_0, .slice A0_1 l0_1.length c0_1] 30)).heap.size := by simp
  have HX0 := Aside0.mk hx0
  have HX1 := Aside0.mk hx1
  have HG := Aside0.mk hgs
  clear hr0_1 hr1 hb0 hlen h hx0 hx1 hgs
  go_enter Try.func51, Try.ntmps51
  go_upto_region 1 with fail
  generalize w.alloc (.cells #[.int .i64 a0_0, .slice A0_1 l0_1.length c0_1] 30) = w2 at HB2 HX0 HX1 HG ⊢
  rw [hg] at HX0 HX1 HG
  have hx1 := (((Below.refl w2.heap.size w2).alloc (Nat.le_refl _) (.cells #[] 37)).cell (p := ⟨g, 1, none⟩) (Nat.lt_of_succ_le HG.out)).trans HX1.out
  obtain ⟨v0, w3, happ, hR, hb3⟩ := Rws.appC (w0 := w) (w := w2.alloc (.cells #[] 37)) (base := g + 1) (g := w2.heap.size) (ms := l0_1) (heap_alloc_new w2 _) HG.out (Nat.le_trans HG.out (by simp)) A0_1 c0_1 HR0.out (HB2.out.trans (((Below.refl _ _).alloc (Nat.le_refl _) _).mono HB2.out.size)) (by have := HL.out.1; omega)
  have HAPP := Aside0.mk happ
  have hb4 : Below w2.heap.size w2 w3 := ((Below.refl w2.heap.size w2).alloc (Nat.le_refl _) (.cells #[] 37)).trans (hb3.mono (by simp))
  have HO := Aside0.mk hR
  have HB := Aside0.mk (HB2.out.trans (hb4.mono HB2.out.size))
  have HX := Aside0.mk ((hb4.cell (p := ⟨g, 0, none⟩) (Nat.lt_of_succ_le HG.out)).trans HX0.out)
  have HG3 := Aside0.mk (Nat.le_trans HG.out hb4.size)
  have HN := Aside0.mk (show l0_1.length ≤ 300 + 0 from HL.out.1)
  clear happ hR hb3 hb4 HG HX0
  go_wp2_with ((with_reducible refine gate_builtin (b := .append) (xs := #[.tmp 10, .tmp 12]) rfl ?_); at_builtin; refine app_eq_step rfl (.tmp 10) (.tmp 12) rfl rfl rfl HAPP.out ?_)
  clear hx1 HAPP
  go_loopg [6, 7] l1.length (fun gg v6 v7 wr => ∃ (i : Nat) (v : Value) (cs : List (List Int)), v6 = v ∧ v7 = .int .i64 i ∧ i ≤ l1.length ∧ l1.length - i ≤ gg ∧ Aside0 (chkS k a0_0 (l1.drop i) i cs = some (r1, r2)) ∧ Aside0 (Rws w wr (g + 1) v cs) ∧ Aside0 (cs.length ≤ 300 + i) ∧ Aside0 (wr.cell? ⟨g, 0, none⟩ = some (.int .i64 a0_0)) ∧ Aside0 (g + 1 ≤ wr.heap.size) ∧ Aside0 (Below w.heap.size w wr))
  case atStart => exact ⟨0, _, l0_1, rfl, rfl, Nat.zero_le _, by omega, ⟨by rw [List.drop_zero]; exact H'.out⟩, HO, HN, HX, HG3, HB⟩
  case round =>
   clear HO HN HX HG3 HB H'
   obtain ⟨i, v, cs, rfl, rfl, hi, hgk, HA, HO, HN, HX, HG, HB⟩ := hrel
   by_cases hlt : i < l1.length
   ·have hltz : (i : Int) < (l1.length : Int) := by omega
    have h0z : (0 : Int) ≤ (i : Int) := by omega
    obtain ⟨ad, A2, c2, ea, hw0, hw1, hlc, hC2⟩ := at_T68 HR1.out (i : Int) h0z hltz
    subst ea
    have hrd : rd_T68 l1 (i : Int) = l1[i] := by unfold rd_T68; simp [List.getD, hlt]
    rw [Int.toNat_natCast, hrd] at hw0 hw1
    rw [hrd] at hlc hC2
    have hA := HA.out
    rw [List.drop_eq_getElem_cons hlt, chkS] at hA
    clear HA hrd
    generalize l1[i] = x at hw0 hw1 hlc hC2 hA
    obtain ⟨x0, c⟩ := x
    simp only at hw0 hw1 hlc hC2 hA
    have ew : IntKind.i64.wrap ((i : Int) + 1) = ((i + 1 : Nat) : Int) := IntWalk.i64_in _ (by have := HL.out.2; omega)
    have hx0 := (HB.out.cell (World.block_lt_of_cell? w _ hw0)).trans hw0
    have hx1 := (HB.out.cell (World.block_lt_of_cell? w _ hw1)).trans hw1
    have HC2 := Aside0.mk (And.intro hC2 hlc)
    obtain ⟨A, cap, rfl, hcap, hC⟩ := HO.out.reads HB.out
    have hC2r := Kd.C_below hC2 HB.out
    clear hw0 hw1 hC2
    cases x0 with
    | true =>
     rw [if_pos rfl] at hA
     obtain ⟨q, hq, hA⟩ := Option.bind_eq_some_iff.mp hA
     have hcall := spec_l03Find.calls k A cap cs A2 c2 c q wr hC hcap hC2r hlc hq
     clear hq hC hC2r
     by_cases hq0 : q < 0
     ·rw [if_pos hq0] at hA
      cases hA
      have hq1 : decide (q < 0) = true := decide_eq_true hq0
      clear hq0
      go_wp2_with (go_at_call 97; refine hcall.mono ?_; rintro e w4 ⟨rfl, hb⟩; clear hcall; have HB4 := Aside0.mk (HB.out.trans (hb.mono HB.out.size)); clear hb)
      go_ret2
      exact ⟨rfl, HB4.out⟩
     ·rw [if_neg hq0] at hA
      by_cases hq2 : q.toNat < cs.length
      ·rw [if_pos hq2] at hA
       obtain ⟨n, rfl⟩ : ∃ n : Nat, q = (n : Int) := ⟨q.toNat, by omega⟩
       rw [Int.toNat_natCast] at hq2 hA
       have HA := Aside0.mk hA
       have HN2 := Aside0.mk hq2
       have hq3 : decide ((n : Int) < 0) = false := decide_eq_false hq0
       clear hA hq0
       go_upto_region 10 with (go_at_call 97; refine hcall.mono ?_; rintro e w4 ⟨rfl, hb⟩; clear hcall; have HB4 := Aside0.mk (HB.out.trans (hb.mono HB.out.size)); have HO4 := Aside0.mk (HO.out.below hb); have HX4 := Aside0.mk ((hb.cell (p := ⟨g, 0, none⟩) (Nat.lt_of_succ_le HG.out)).trans HX.out); have HG4 := Aside0.mk (Nat.le_trans HG.out hb.size); clear hb HO HX HG HB)
       obtain ⟨q0, cap2, xs, hv, hbq, hcq, hcs, hcell⟩ := HO4.out.open_ (by omega)
       injection hv with e1 e2 e3
       subst e1
       subst e3
       have hgW : ∀ W, Below w4.drew.heap.size w4.drew W → g + 1 ≤ W.heap.size := fun W hW => Nat.le_trans HG4.out hW.size
       have hcl : ∀ W, Below w4.drew.heap.size w4.drew W → ∀ (j : Nat) u, xs[j]? = some u → W.cell? ((⟨q0, 0, none⟩ : Addr).add j) = some u := fun W hW j u hu => by
        have h1 := hcell j u hu
        exact (hW.cell (World.block_lt_of_cell? w4 _ h1)).trans h1
       have hL4 : cs.length ≤ 4096 := by have := HN.out; have := HL.out.2; omega
       have ewn : IntKind.i64.wrap ((n : Int) + 1) = ((n + 1 : Nat) : Int) := IntWalk.i64_in _ (by omega)
       refine any_tail [some 36, some 37, some 38, some 39, some 40, some 41, some 42, some 43, some 44, some 45, some 6] 71 9 [0, 0, 0, 6, 15, 0, 0, 64, 224, 511, 1023] [VP.lit0 (g + 1), VP.eq (.slice (some ⟨q0, 0, none⟩) cs.length cap), VP.eq (.int .i64 (n : Int)), VP.eq (.slice (some ⟨q0, 0, none⟩) n cap), VP.rws w (g + 1) (cs.take n), VP.eq (.slice (some ⟨q0, 0, none⟩) cs.length cap), VP.eq (.int .i64 (n : Int)), VP.eq (.int .i64 ((n + 1 : Nat) : Int)), VP.eq (.slice (some (if cap = n + 1 then ⟨q0, 0, none⟩ else (⟨q0, 0, none⟩ : Addr).add (n + 1))) (cs.length - (n + 1)) (cap - (n + 1)))] rfl chkS_tab rfl rfl (by kernel_rfl) rfl ⟨?_, ?_, ?_, ?_, ?_, ?_, ?_, ?_, ?_, trivial⟩ ?_
       ·intro bq W B hW hB hb hd K hK hK2; exact value_ wn_ rfl (x_lit22 rfl) (hK _ _ ⟨W.heap.size, rfl, hgW W hW, heap_alloc_new W _⟩ ((Below.refl _ _).alloc (Nat.le_refl _) _))
       ·intro bq W B hW hB hb hd K hK hK2; exact gd_step (C := true) wn_ (fun _ => x_move rfl (hb 6)) (hK _ W rfl (Below.refl _ _))
       ·intro bq W B hW hB hb hd K hK hK2; exact gd_step (C := true) wn_ (fun _ => x_move rfl (hb 9)) (hK _ W rfl (Below.refl _ _))
       ·intro bq W B hW hB hb hd K hK hK2; exact gd_step (C := true) wn_ (fun _ => x_slhi22 rfl (hd 1 37) (hd 2 38) (by omega)) (hK _ W rfl (Below.refl _ _))
       ·intro bq W B hW hB hb hd K hK hK2
        obtain ⟨g1, h36, hg1, hk1⟩ : ∃ g1, bq.eval (.tmp 36) = .slice (some ⟨g1, 0, none⟩) 0 0 ∧ g + 1 ≤ g1 ∧ W.heap[g1]? = some (.cells #[] 37 (0, 0)) := hd 0 36
        obtain ⟨v1, W1, hap, hR1, hb1⟩ := lit_app (w0 := w) (ms := cs.take n) hk1 hg1 (hgW W hW) ⟨q0, 0, none⟩ n cap (xs.take n) (hcs.take n) (by rw [List.length_take]; omega) (fun j u hu => hcl W hW j u (by
         have hj : j < n := by
          rcases Nat.lt_or_ge j n with q | q
          ·exact q
          ·rw [List.getElem?_eq_none (by rw [List.length_take]; omega)] at hu; cases hu
         rwa [List.getElem?_take_of_lt hj] at hu)) (by omega)
        exact value_ wn_ rfl (x_app22 rfl h36 (hd 3 39) hap) (hK _ _ hR1 hb1)
       ·intro bq W B hW hB hb hd K hK hK2; exact gd_step (C := true) wn_ (fun _ => x_move rfl (hb 6)) (hK _ W rfl (Below.refl _ _))
       ·intro bq W B hW hB hb hd K hK hK2; exact gd_step (C := true) wn_ (fun _ => x_move rfl (hb 9)) (hK _ W rfl (Below.refl _ _))
       ·intro bq W B hW hB hb hd K hK hK2; exact gd_step (C := true) wn_ (fun _ => x_addi rfl (hd 6 42) rfl ewn) (hK _ W rfl (Below.refl _ _))
       ·intro bq W B hW hB hb hd K hK hK2; exact gd_step (C := true) wn_ (fun _ => x_sllo22 rfl (hd 5 41) (hd 7 43) (by omega) (by omega)) (hK _ W rfl (Below.refl _ _))
       ·intro vals F W B hF hW hBB hV
        have hR40 : Rws w W (g + 1) (vals 40) (cs.take n) := hV 4 40 (of_decide_eq_true (by kernel_rfl)) rfl
        have hf44 : vals 44 = .slice (some (if cap = n + 1 then ⟨q0, 0, none⟩ else (⟨q0, 0, none⟩ : Addr).add (n + 1))) (cs.length - (n + 1)) (cap - (n + 1)) := hV 8 44 (of_decide_eq_true (by kernel_rfl)) rfl
        have hbw : Below w4.heap.size w4 W := (below_drew1 (Below.refl w4.heap.size w4)).trans hW
        have HB5 := Aside0.mk (HB4.out.trans (hbw.mono HB4.out.size))
        have HX5 := Aside0.mk ((hbw.cell (p := ⟨g, 0, none⟩) (Nat.lt_of_succ_le HG4.out)).trans HX4.out)
        have HG5 := Aside0.mk (Nat.le_trans HG4.out hbw.size)
        have hdr : ∀ (j : Nat) u, (xs.drop (n + 1))[j]? = some u → W.cell? ((if cap = n + 1 then (⟨q0, 0, none⟩ : Addr) else (⟨q0, 0, none⟩ : Addr).add (n + 1)).add j) = some u := fun j u hu => by
         have hjl : j < (xs.drop (n + 1)).length := (List.getElem?_eq_some_iff.1 hu).1
         rw [List.length_drop, hcs.1] at hjl
         rw [if_neg (by omega)]
         rw [List.getElem?_drop] at hu
         have := hcl W hW _ u hu
         have e1 : ((⟨q0, 0, none⟩ : Addr).add (n + 1)).add j = (⟨q0, 0, none⟩ : Addr).add (n + 1 + j) := by simp [Addr.add]
         rw [e1]
         exact this
        have hcd := hcs.drop (n + 1)
        have hld : (cs.drop (n + 1)).length = cs.length - (n + 1) := List.length_drop
        have hlt1 : (cs.take n).length + (cs.length - (n + 1)) ≤ 4096 := by rw [List.length_take]; omega
        have hlen2 : (cs.eraseIdx n).length = cs.length - 1 := List.length_eraseIdx_of_lt (by omega)
        generalize (if cap = n + 1 then (⟨q0, 0, none⟩ : Addr) else (⟨q0, 0, none⟩ : Addr).add (n + 1)) = ad2 at hf44 hdr
        generalize cs.length - (n + 1) = m2 at hf44 hld hlt1
        generalize cap - (n + 1) = c3 at hf44
        rw [hF]
        clear hF hV hBB hW hbw hgW hcl HB4 HX4 HG4 HO4 hcell
        simp only [List.take, fillA, Act.put, List.setIfInBounds_toArray, List.set_cons_zero, List.set_cons_succ, hf44]
        clear hf44
        refine Rws.step (w0 := w) rfl (.tmp 40) (.tmp 44) rfl (g + 1) _ (cs.take n) (cs.drop (n + 1)) rfl hR40 ad2 m2 c3 rfl (xs.drop (n + 1)) hcd hld hdr hlt1 HG5.out ?_
        intro v6 w6 ho hb
        rw [← List.eraseIdx_eq_take_drop_succ] at ho
        have HO6 := Aside0.mk ho
        have HB6 := Aside0.mk (HB5.out.trans (hb.mono (by omega)))
        have HX6 := Aside0.mk ((hb.cell (p := ⟨g, 0, none⟩) (Nat.lt_succ_self g)).trans HX5.out)
        have HG6 := Aside0.mk (Nat.le_trans HG5.out hb.size)
        have HL6 := Aside0.mk (show (cs.eraseIdx n).length ≤ 300 + (i + 1) by have := HN.out; omega)
        clear ho hb hR40 hdr hcd hld hlt1 hlen2 hcs
        go_wp2
        go_roundg (gk - 1)
        case measure => omega
        case rel => exact ⟨i + 1, _, _, rfl, rfl, by omega, by omega, HA, HO6, HL6, HX6, HG6, HB6⟩
      ·rw [if_neg hq2] at hA
       cases hA
    | false =>
     rw [if_neg Bool.false_ne_true] at hA
     obtain ⟨b, hb1, hA⟩ := Option.bind_eq_some_iff.mp hA
     obtain ⟨d, hd, hA⟩ := Option.bind_eq_some_iff.mp hA
     have hcall := spec_l03Rup.calls k A cap cs a0_0 A2 c2 c b wr hC hcap hC2r hlc hb1
     clear hb1
     have hB2 := HB
     have hxa : ∀ W, Below wr.heap.size wr W → W.cell? ⟨g, 0, none⟩ = some (.int .i64 a0_0) := fun W hW => (hW.cell (p := ⟨g, 0, none⟩) (Nat.lt_of_succ_le HG.out)).trans HX.out
     have hend : ∀ W, Below wr.heap.size wr W → Aside0 (Rws w W (g + 1) (.slice A cs.length cap) cs) ∧ Aside0 (W.cell? ⟨g, 0, none⟩ = some (.int .i64 a0_0)) ∧ Aside0 (g + 1 ≤ W.heap.size) ∧ Aside0 (Below w.heap.size w W) := fun W hW => ⟨⟨HO.out.below hW⟩, ⟨hxa W hW⟩, ⟨Nat.le_trans HG.out hW.size⟩, ⟨HB.out.trans (hW.mono HB.out.size)⟩⟩
     have hx := HX.out
     have HH := Aside0.mk (And.intro hC hC2r)
     clear hC hC2r hxa
     have key : ∀ (W : World), Aside0 (Below wr.heap.size wr W) → d = true → True := fun _ _ _ => trivial
     clear key
     cases b with
     | true =>
      rw [if_pos rfl] at hd
      obtain rfl : true = d := Option.some.inj hd
      rw [if_pos rfl] at hA
      clear hd
      by_cases hl0 : c.length = 0
      ·rw [if_pos hl0] at hA
       cases hA
       have hl1 : ((c.length : Int) == 0) = true := beq_iff_eq.mpr (by omega)
       clear hl0
       go_wp2_with (go_at_call 60; refine hcall.mono ?_; rintro e w4 ⟨rfl, hb⟩; clear hcall; have HE := hend _ hb; clear hb hend)
       go_ret2
       exact ⟨rfl, HE.2.2.2.out⟩
      ·rw [if_neg hl0] at hA
       have hl1 : ((c.length : Int) == 0) = false := beq_eq_false_iff_ne.mpr (by omega)
       have HA := Aside0.mk hA
       clear hA hl0
       go_upto_region 15 with (go_at_call 60; refine hcall.mono ?_; rintro e w4 ⟨rfl, hb⟩; clear hcall; have HE := hend _ hb; clear hb hend HO HX HG HB)
       obtain ⟨HO4, HX4, HG4, HB4⟩ := HE
       have HC3 := Aside0.mk (Cells.one (w0 := w) HC2.out.2 HC2.out.1)
       have HL6 := Aside0.mk (show (cs ++ [c]).length ≤ 300 + (i + 1) by rw [List.length_append]; have := HN.out; simp only [List.length_cons, List.length_nil]; omega)
       have hL4 : cs.length ≤ 4095 := by have := HN.out; have := HL.out.2; omega
       have HL4 := Aside0.mk hL4
       clear hL4
       go_wp2_with ((with_reducible refine gate_builtin (b := .append) (xs := #[.tmp 65, .tmp 67]) rfl ?_); at_builtin; refine Rws.step (w0 := w) rfl (.tmp 65) (.tmp 67) rfl (g + 1) _ cs [c] rfl (HO4.out.below ((Below.refl _ _).alloc (Nat.le_refl _) _)) ⟨_, 0, none⟩ 1 1 rfl [.slice A2 c.length c2] HC3.out rfl (one_cell _ _ _) (by have := HL4.out; omega) (Nat.le_trans HG4.out (by simp)) ?_; intro v6 w6 ho hb; have HO6 := Aside0.mk ho; have HB6 := Aside0.mk ((HB4.out.alloc (HB4.out.size) _).trans (hb.mono (by omega))); have HX6 := Aside0.mk ((hb.cell (p := ⟨g, 0, none⟩) (Nat.lt_succ_self g)).trans ((((Below.refl _ _).alloc (Nat.le_refl _) _).cell (p := ⟨g, 0, none⟩) (Nat.lt_of_succ_le HG4.out)).trans HX4.out)); have HG6 := Aside0.mk (Nat.le_trans (Nat.le_trans HG4.out (by simp)) hb.size); clear hb ho)
       go_roundg (gk - 1)
       case measure => omega
       case rel => exact ⟨i + 1, _, _, rfl, rfl, by omega, by omega, HA, HO6, HL6, HX6, HG6, HB6⟩
     | false =>
      rw [if_neg Bool.false_ne_true] at hd
      have hcall2 := fun W (hW : Below wr.heap.size wr W) => spec_l03Rat.calls k A cap cs a0_0 A2 c2 c d W (Kd.C_below HH.out.1 hW) hcap (Kd.C_below HH.out.2 hW) hlc hd
      clear hd
      cases d with
      | false =>
       rw [if_neg Bool.false_ne_true] at hA
       cases hA
       go_wp2_with (first
        | (go_at_call 60; refine hcall.mono ?_; rintro e w4 ⟨rfl, hb⟩; clear hcall; have HE := hend _ hb; have hx4 := HE.2.1.out; have hc4 := hcall2 _ hb; have HBB := Aside0.mk hb; clear hb hcall2)
        | (go_at_call 77; refine hc4.mono ?_; rintro e w5 ⟨rfl, hb⟩; clear hc4; have HE5 := hend _ (HBB.out.trans (hb.mono HBB.out.size)); clear hb hend))
       go_ret2
       exact ⟨rfl, HE5.2.2.2.out⟩
      | true =>
       rw [if_pos rfl] at hA
       by_cases hl0 : c.length = 0
       ·rw [if_pos hl0] at hA
        cases hA
        have hl1 : ((c.length : Int) == 0) = true := beq_iff_eq.mpr (by omega)
        clear hl0
        go_wp2_with (first
         | (go_at_call 60; refine hcall.mono ?_; rintro e w4 ⟨rfl, hb⟩; clear hcall; have HE := hend _ hb; have hx4 := HE.2.1.out; have hc4 := hcall2 _ hb; have HBB := Aside0.mk hb; clear hb hcall2)
         | (go_at_call 77; refine hc4.mono ?_; rintro e w5 ⟨rfl, hb⟩; clear hc4; have HE5 := hend _ (HBB.out.trans (hb.mono HBB.out.size)); clear hb hend))
        go_ret2
        exact ⟨rfl, HE5.2.2.2.out⟩
       ·rw [if_neg hl0] at hA
        have hl1 : ((c.length : Int) == 0) = false := beq_eq_false_iff_ne.mpr (by omega)
        have HA := Aside0.mk hA
        clear hA hl0
        go_upto_region 15 with (first
         | (go_at_call 60; refine hcall.mono ?_; rintro e w4 ⟨rfl, hb⟩; clear hcall; have HE0 := hend _ hb; have hx4 := HE0.2.1.out; have hc4 := hcall2 _ hb; have HBB := Aside0.mk hb; clear hb hcall2 HO HX HG HB)
         | (go_at_call 77; refine hc4.mono ?_; rintro e w5 ⟨rfl, hb⟩; clear hc4; have HE := hend _ (HBB.out.trans (hb.mono HBB.out.size)); clear hb hend HE0))
        obtain ⟨HO4, HX4, HG4, HB4⟩ := HE
        have HC3 := Aside0.mk (Cells.one (w0 := w) HC2.out.2 HC2.out.1)
        have HL6 := Aside0.mk (show (cs ++ [c]).length ≤ 300 + (i + 1) by rw [List.length_append]; have := HN.out; simp only [List.length_cons, List.length_nil]; omega)
        have hL4 : cs.length ≤ 4095 := by have := HN.out; have := HL.out.2; omega
        have HL4 := Aside0.mk hL4
        clear hL4
        go_wp2_with ((with_reducible refine gate_builtin (b := .append) (xs := #[.tmp 65, .tmp 67]) rfl ?_); at_builtin; refine Rws.step (w0 := w) rfl (.tmp 65) (.tmp 67) rfl (g + 1) _ cs [c] rfl (HO4.out.below ((Below.refl _ _).alloc (Nat.le_refl _) _)) ⟨_, 0, none⟩ 1 1 rfl [.slice A2 c.length c2] HC3.out rfl (one_cell _ _ _) (by have := HL4.out; omega) (Nat.le_trans HG4.out (by simp)) ?_; intro v6 w6 ho hb; have HO6 := Aside0.mk ho; have HB6 := Aside0.mk ((HB4.out.alloc (HB4.out.size) _).trans (hb.mono (by omega))); have HX6 := Aside0.mk ((hb.cell (p := ⟨g, 0, none⟩) (Nat.lt_succ_self g)).trans ((((Below.refl _ _).alloc (Nat.le_refl _) _).cell (p := ⟨g, 0, none⟩) (Nat.lt_of_succ_le HG4.out)).trans HX4.out)); have HG6 := Aside0.mk (Nat.le_trans (Nat.le_trans HG4.out (by simp)) hb.size); clear hb ho)
        go_roundg (gk - 1)
        case measure => omega
        case rel => exact ⟨i + 1, _, _, rfl, rfl, by omega, by omega, HA, HO6, HL6, HX6, HG6, HB6⟩
   ·obtain rfl : i = l1.length := by omega
    have hA := HA.out
    rw [List.drop_length, chkS] at hA
    cases hA
    go_wp2
    go_ret2
    exact ⟨rfl, HB.out⟩
 ·rw [if_neg hlen] at h
  cases h
def spec_CheckProof.f (k : Nat) (a0_0 : Int) (l0_1 : List (List Int)) (l1 : List (S68)) : Option (Int × Int) := if (l1.length : Int) > 4096 then (some (0, 2)) else ((spec_CnfOK.f k a0_0 l0_1).bind fun t189 => (if t189 = true then ((spec_l03Steps.f k l1 a0_0).bind fun t190 => (if t190 = true then ((spec_l03Check.f k a0_0 l0_1 l1).bind fun bt191 => (some (bt191.1, bt191.2))) else (some (0, 1)))) else (some (0, 1))))
set_option maxHeartbeats 8000000 in
set_option maxRecDepth 100000 in
theorem spec_CheckProof.calls (k : Nat) (a0_0 : Int) (A0_1 : Option Addr) (c0_1 : Nat) (l0_1 : List (List Int)) (A1 : Option Addr) (c1 : Nat) (l1 : List (S68)) (r1 : Int) (r2 : Int) (w : World) (hr0_1 : Kd.C (Kd.slice 3 (Kd.int .i64)) w A0_1 l0_1.length l0_1) (hc0_1 : l0_1.length ≤ c0_1) (hr1 : Kd.C k68 w A1 l1.length l1) (hc1 : l1.length ≤ c1) (h : spec_CheckProof.f k a0_0 l0_1 l1 = some (r1, r2)) :
  Calls Try.prog 14 #[.agg #[.int .i64 a0_0, .slice A0_1 l0_1.length c0_1], .slice A1 l1.length c1] w fun e w' => e = .returned (.tuple #[.int .i64 r1, .int .i64 r2]) ∧ Below w.heap.size w w' := by
 have hu30 := Try.underlying30
 have HR0_1 := Aside0.mk hr0_1
 have HC0_1 := Aside0.mk hc0_1
 clear hr0_1 hc0_1
 have HR1 := Aside0.mk hr1
 have HC1 := Aside0.mk hc1
 clear hr1 hc1
 have HB := Aside0.mk (Below.refl w.heap.size w)
 have H : (if (l1.length : Int) > 4096 then (some (0, 2)) else ((spec_CnfOK.f k a0_0 l0_1).bind fun t189 => (if t189 = true then ((spec_l03Steps.f k l1 a0_0).bind fun t190 => (if t190 = true then ((spec_l03Check.f k a0_0 l0_1 l1).bind fun bt191 => (some (bt191.1, bt191.2))) else (some (0, 1)))) else (some (0, 1))))) = some (r1, r2) := h
 clear h
 by_cases c3 : (l1.length : Int) > 4096
 ·rw [if_pos c3] at H
  have c3b0 : decide (4096 < (l1.length : Int)) = true := decide_eq_true c3
  have c3b1 : decide (4096 < l1.length) = true := decide_eq_true (by omega)
  clear c3
  simp only [Option.some.injEq, Prod.mk.injEq] at H
  obtain ⟨rfl, rfl⟩ := H
  go_enter Try.func14, Try.ntmps14
  go_wp2_with (first | ((with_reducible refine gate_dst (N := 2) rfl ?_); refine box_event ?hg (N := 2) ?hd (cs := #[.int .i64 a0_0, .slice A0_1 l0_1.length c0_1]) (t := 30) ?hr ?_; (case hd => rfl); (case hg => rfl); (case hr => first | (go_simp; done) | (go_simp; rfl)); intro gb188 hg w4 hbox hb; have n0_ := Aside0.mk (below_step (by repeat (first | (with_reducible first | exact HB.out | apply below_alloc | apply pw_below_drewN | apply below_drew1) | exact HB.out)) hb); have n1_ := Aside0.mk (hbox); have n2_ := Aside0.mk ((by rw [hg]; exact (below_size (by repeat (first | (with_reducible first | exact HB.out | apply below_alloc | apply pw_below_drewN | apply below_drew1) | exact HB.out))) : w.heap.size ≤ gb188)); have n3_ := Aside0.mk ((by rw [hg]; exact (below_size (by repeat (first | (with_reducible first | exact HB.out | apply below_alloc | apply pw_below_drewN | apply below_drew1) | exact HB.out))) : w.heap.size ≤ gb188)); clear HB; have HB := n0_; have BK188 := n1_; have GW188 := n2_; have GE188 := n3_; clear n0_ n1_ n2_ n3_; clear hb hbox hg))
  go_ret2
  exact ⟨by first | rfl | (simp [errW_none, errW_some] <;> rfl) | (simp [*, errW_none, errW_some] <;> rfl), by repeat (first | (with_reducible first | exact HB.out | apply below_alloc | apply pw_below_drewN | apply below_drew1 | refine below_set ?_ GE188.out) | exact HB.out)⟩
 ·rw [if_neg c3] at H
  have c3b0 : decide (4096 < (l1.length : Int)) = false := decide_eq_false c3
  have c3b1 : decide (4096 < l1.length) = false := decide_eq_false (by omega)
  clear c3
  replace H := Option.bind_eq_some_iff.mp H
  obtain ⟨t189, A50, H⟩ := H
  replace H : (if t189 = true then ((spec_l03Steps.f k l1 a0_0).bind fun t190 => (if t190 = true then ((spec_l03Check.f k a0_0 l0_1 l1).bind fun bt191 => (some (bt191.1, bt191.2))) else (some (0, 1)))) else (some (0, 1))) = some (r1, r2) := H
  have A5 := Aside0.mk A50
  clear A50
  by_cases c6 : t189 = true
  ·subst c6
   have H1 : ((spec_l03Steps.f k l1 a0_0).bind fun t190 => (if t190 = true then ((spec_l03Check.f k a0_0 l0_1 l1).bind fun bt191 => (some (bt191.1, bt191.2))) else (some (0, 1)))) = some (r1, r2) := by rw [if_pos rfl] at H; exact H
   clear H
   have H := H1
   clear H1
   replace H := Option.bind_eq_some_iff.mp H
   obtain ⟨t190, A70, H⟩ := H
   replace H : (if t190 = true then ((spec_l03Check.f k a0_0 l0_1 l1).bind fun bt191 => (some (bt191.1, bt191.2))) else (some (0, 1))) = some (r1, r2) := H
   have A7 := Aside0.mk A70
   clear A70
   by_cases c8 : t190 = true
   ·subst c8
    have H1 : ((spec_l03Check.f k a0_0 l0_1 l1).bind fun bt191 => (some (bt191.1, bt191.2))) = some (r1, r2) := by rw [if_pos rfl] at H; exact H
    clear H
    have H := H1
    clear H1
    replace H := Option.bind_eq_some_iff.mp H
    obtain ⟨⟨t191, t192⟩, A90, H⟩ := H
    replace H : (some (t191, t192)) = some (r1, r2) := H
    have A9 := Aside0.mk A90
    clear A90
    simp only [Option.some.injEq, Prod.mk.injEq] at H
    obtain ⟨rfl, rfl⟩ := H
    go_enter Try.func14, Try.ntmps14
    go_wp2_with (first | ((with_reducible refine gate_dst (N := 2) rfl ?_); refine box_event ?hg (N := 2) ?hd (cs := #[.int .i64 a0_0, .slice A0_1 l0_1.length c0_1]) (t := 30) ?hr ?_; (case hd => rfl); (case hg => rfl); (case hr => first | (go_simp; done) | (go_simp; rfl)); intro gb188 hg w10 hbox hb; have n0_ := Aside0.mk (below_step (by repeat (first | (with_reducible first | exact HB.out | apply below_alloc | apply pw_below_drewN | apply below_drew1) | exact HB.out)) hb); have n1_ := Aside0.mk (hbox); have n2_ := Aside0.mk ((by rw [hg]; exact (below_size (by repeat (first | (with_reducible first | exact HB.out | apply below_alloc | apply pw_below_drewN | apply below_drew1) | exact HB.out))) : w.heap.size ≤ gb188)); have n3_ := Aside0.mk ((by rw [hg]; exact (below_size (by repeat (first | (with_reducible first | exact HB.out | apply below_alloc | apply pw_below_drewN | apply below_drew1) | exact HB.out))) : w.heap.size ≤ gb188)); clear HB; have HB := n0_; have BK188 := n1_; have GW188 := n2_; have GE188 := n3_; clear n0_ n1_ n2_ n3_; clear hb hbox hg; have hcz11_0 : w10.cell? ⟨gb188, 0, none⟩ = some (.int .i64 a0_0) := (blk_cell BK188.out 0).trans rfl; have hcz11_1 : w10.cell? ⟨gb188, 1, none⟩ = some (.slice A0_1 l0_1.length c0_1) := (blk_cell BK188.out 1).trans rfl; have hfz11_0 := blk_frozen BK188.out 0; have hfz11_1 := blk_frozen BK188.out 1) | ((with_reducible refine gate_callee (f := 49) rfl ?_); refine goesL_ (some 10) rfl rfl Try.func49 (by kernel_rfl) rfl #[.agg #[.int .i64 a0_0, .slice A0_1 l0_1.length c0_1]] rfl (by (try simp only [List.map_toArray, List.map_cons, List.map_nil]); first | done | rfl | (simp only [List.length_drop, List.length_take]; rfl)) ?_; (with_reducible refine (spec_CnfOK.calls k a0_0 _ _ l0_1 true _ ?side1 ?side2 A5.out).mono ?_); (case side1 => repeat (first | exact (Kd.C_below HR0_1.out HB.out) | (with_reducible refine Kd.C_alloc ?_ _) | (with_reducible refine Kd.C_drewN ?_ _) | (with_reducible refine Kd.C_drew ?_))); (case side2 => exact HC0_1.out); rintro e w12 ⟨rfl, hb⟩; refine ⟨_, rfl, ?_⟩; have n0_ := Aside0.mk (blk_below (g := gb188) (o := .cells #[.int .i64 a0_0, .slice A0_1 l0_1.length c0_1] 30 (0, 0)) (by (with_reducible repeat (first | refine blk_drewN ?_ _ | refine blk_drew ?_ | refine blk_alloc ?_ _)); exact BK188.out) hb); have n1_ := Aside0.mk (below_step (by repeat (first | (with_reducible first | exact HB.out | apply below_alloc | apply pw_below_drewN | apply below_drew1 | refine below_set ?_ GE188.out) | exact HB.out)) hb); clear BK188; clear HB; have BK188 := n0_; have HB := n1_; clear n0_ n1_; (try clear hb); (try clear hb2); (try clear hk); (try clear hi); have hcz13_0 : w12.cell? ⟨gb188, 0, none⟩ = some (.int .i64 a0_0) := (blk_cell BK188.out 0).trans rfl; have hcz13_1 : w12.cell? ⟨gb188, 1, none⟩ = some (.slice A0_1 l0_1.length c0_1) := (blk_cell BK188.out 1).trans rfl; have hfz13_0 := blk_frozen BK188.out 0; have hfz13_1 := blk_frozen BK188.out 1) | (go_at_call 50; (with_reducible refine (spec_l03Steps.calls k _ _ l1 a0_0 true _ ?side1 ?side2 A7.out).mono ?_); (case side1 => repeat (first | exact (Kd.C_below HR1.out HB.out) | (with_reducible refine Kd.C_alloc ?_ _) | (with_reducible refine Kd.C_drewN ?_ _) | (with_reducible refine Kd.C_drew ?_))); (case side2 => exact HC1.out); rintro e w' ⟨rfl, ⟨nd, rfl⟩⟩) | ((with_reducible refine gate_callee (f := 51) rfl ?_); refine goesL_ (some 21) rfl rfl Try.func51 (by kernel_rfl) rfl #[.agg #[.int .i64 a0_0, .slice A0_1 l0_1.length c0_1], .slice A1 l1.length c1] rfl (by (try simp only [List.map_toArray, List.map_cons, List.map_nil]); first | done | rfl | (simp only [List.length_drop, List.length_take]; rfl)) ?_; (with_reducible refine (spec_l03Check.calls k a0_0 _ _ l0_1 _ _ l1 t191 t192 _ ?side1 ?side2 ?side3 ?side4 A9.out).mono ?_); (case side1 => repeat (first | exact (Kd.C_below HR0_1.out (by repeat (first | (with_reducible first | exact HB.out | apply below_alloc | apply pw_below_drewN | apply below_drew1 | refine below_set ?_ GE188.out) | exact HB.out))) | (with_reducible refine Kd.C_alloc ?_ _) | (with_reducible refine Kd.C_drewN ?_ _) | (with_reducible refine Kd.C_drew ?_))); (case side2 => exact HC0_1.out); (case side3 => repeat (first | exact (Kd.C_below HR1.out (by repeat (first | (with_reducible first | exact HB.out | apply below_alloc | apply pw_below_drewN | apply below_drew1 | refine below_set ?_ GE188.out) | exact HB.out))) | (with_reducible refine Kd.C_alloc ?_ _) | (with_reducible refine Kd.C_drewN ?_ _) | (with_reducible refine Kd.C_drew ?_))); (case side4 => exact HC1.out); rintro e w14 ⟨rfl, hb⟩; refine ⟨_, rfl, ?_⟩; have n0_ := Aside0.mk (blk_below (g := gb188) (o := .cells #[.int .i64 a0_0, .slice A0_1 l0_1.length c0_1] 30 (0, 0)) (by (with_reducible repeat (first | refine blk_drewN ?_ _ | refine blk_drew ?_ | refine blk_alloc ?_ _)); exact BK188.out) hb); have n1_ := Aside0.mk (below_step (by repeat (first | (with_reducible first | exact HB.out | apply below_alloc | apply pw_below_drewN | apply below_drew1 | refine below_set ?_ GE188.out) | exact HB.out)) hb); clear BK188; clear HB; have BK188 := n0_; have HB := n1_; clear n0_ n1_; (try clear hb); (try clear hb2); (try clear hk); (try clear hi)))
    go_ret2
    exact ⟨by first | rfl | (simp [errW_none, errW_some] <;> rfl) | (simp [*, errW_none, errW_some] <;> rfl), by repeat (first | (with_reducible first | exact HB.out | apply below_alloc | apply pw_below_drewN | apply below_drew1 | refine below_set ?_ GE188.out) | exact HB.out)⟩
   ·replace c8 := Bool.eq_false_iff.mpr c8
    subst c8
    have H1 : (some (0, 1)) = some (r1, r2) := by rw [if_neg (show ¬ (false = true) by decide)] at H; exact H
    clear H
    have H := H1
    clear H1
    simp only [Option.some.injEq, Prod.mk.injEq] at H
    obtain ⟨rfl, rfl⟩ := H
    go_enter Try.func14, Try.ntmps14
    go_wp2_with (first | ((with_reducible refine gate_dst (N := 2) rfl ?_); refine box_event ?hg (N := 2) ?hd (cs := #[.int .i64 a0_0, .slice A0_1 l0_1.length c0_1]) (t := 30) ?hr ?_; (case hd => rfl); (case hg => rfl); (case hr => first | (go_simp; done) | (go_simp; rfl)); intro gb188 hg w15 hbox hb; have n0_ := Aside0.mk (below_step (by repeat (first | (with_reducible first | exact HB.out | apply below_alloc | apply pw_below_drewN | apply below_drew1) | exact HB.out)) hb); have n1_ := Aside0.mk (hbox); have n2_ := Aside0.mk ((by rw [hg]; exact (below_size (by repeat (first | (with_reducible first | exact HB.out | apply below_alloc | apply pw_below_drewN | apply below_drew1) | exact HB.out))) : w.heap.size ≤ gb188)); have n3_ := Aside0.mk ((by rw [hg]; exact (below_size (by repeat (first | (with_reducible first | exact HB.out | apply below_alloc | apply pw_below_drewN | apply below_drew1) | exact HB.out))) : w.heap.size ≤ gb188)); clear HB; have HB := n0_; have BK188 := n1_; have GW188 := n2_; have GE188 := n3_; clear n0_ n1_ n2_ n3_; clear hb hbox hg; have hcz16_0 : w15.cell? ⟨gb188, 0, none⟩ = some (.int .i64 a0_0) := (blk_cell BK188.out 0).trans rfl; have hcz16_1 : w15.cell? ⟨gb188, 1, none⟩ = some (.slice A0_1 l0_1.length c0_1) := (blk_cell BK188.out 1).trans rfl; have hfz16_0 := blk_frozen BK188.out 0; have hfz16_1 := blk_frozen BK188.out 1) | ((with_reducible refine gate_callee (f := 49) rfl ?_); refine goesL_ (some 10) rfl rfl Try.func49 (by kernel_rfl) rfl #[.agg #[.int .i64 a0_0, .slice A0_1 l0_1.length c0_1]] rfl (by (try simp only [List.map_toArray, List.map_cons, List.map_nil]); first | done | rfl | (simp only [List.length_drop, List.length_take]; rfl)) ?_; (with_reducible refine (spec_CnfOK.calls k a0_0 _ _ l0_1 true _ ?side1 ?side2 A5.out).mono ?_); (case side1 => repeat (first | exact (Kd.C_below HR0_1.out HB.out) | (with_reducible refine Kd.C_alloc ?_ _) | (with_reducible refine Kd.C_drewN ?_ _) | (with_reducible refine Kd.C_drew ?_))); (case side2 => exact HC0_1.out); rintro e w17 ⟨rfl, hb⟩; refine ⟨_, rfl, ?_⟩; have n0_ := Aside0.mk (blk_below (g := gb188) (o := .cells #[.int .i64 a0_0, .slice A0_1 l0_1.length c0_1] 30 (0, 0)) (by (with_reducible repeat (first | refine blk_drewN ?_ _ | refine blk_drew ?_ | refine blk_alloc ?_ _)); exact BK188.out) hb); have n1_ := Aside0.mk (below_step (by repeat (first | (with_reducible first | exact HB.out | apply below_alloc | apply pw_below_drewN | apply below_drew1 | refine below_set ?_ GE188.out) | exact HB.out)) hb); clear BK188; clear HB; have BK188 := n0_; have HB := n1_; clear n0_ n1_; (try clear hb); (try clear hb2); (try clear hk); (try clear hi); have hcz18_0 : w17.cell? ⟨gb188, 0, none⟩ = some (.int .i64 a0_0) := (blk_cell BK188.out 0).trans rfl; have hcz18_1 : w17.cell? ⟨gb188, 1, none⟩ = some (.slice A0_1 l0_1.length c0_1) := (blk_cell BK188.out 1).trans rfl; have hfz18_0 := blk_frozen BK188.out 0; have hfz18_1 := blk_frozen BK188.out 1) | (go_at_call 50; (with_reducible refine (spec_l03Steps.calls k _ _ l1 a0_0 false _ ?side1 ?side2 A7.out).mono ?_); (case side1 => repeat (first | exact (Kd.C_below HR1.out HB.out) | (with_reducible refine Kd.C_alloc ?_ _) | (with_reducible refine Kd.C_drewN ?_ _) | (with_reducible refine Kd.C_drew ?_))); (case side2 => exact HC1.out); rintro e w' ⟨rfl, ⟨nd, rfl⟩⟩))
    go_ret2
    exact ⟨by first | rfl | (simp [errW_none, errW_some] <;> rfl) | (simp [*, errW_none, errW_some] <;> rfl), by repeat (first | (with_reducible first | exact HB.out | apply below_alloc | apply pw_below_drewN | apply below_drew1 | refine below_set ?_ GE188.out) | exact HB.out)⟩
  ·replace c6 := Bool.eq_false_iff.mpr c6
   subst c6
   have H1 : (some (0, 1)) = some (r1, r2) := by rw [if_neg (show ¬ (false = true) by decide)] at H; exact H
   clear H
   have H := H1
   clear H1
   simp only [Option.some.injEq, Prod.mk.injEq] at H
   obtain ⟨rfl, rfl⟩ := H
   go_enter Try.func14, Try.ntmps14
   go_wp2_with (first | ((with_reducible refine gate_dst (N := 2) rfl ?_); refine box_event ?hg (N := 2) ?hd (cs := #[.int .i64 a0_0, .slice A0_1 l0_1.length c0_1]) (t := 30) ?hr ?_; (case hd => rfl); (case hg => rfl); (case hr => first | (go_simp; done) | (go_simp; rfl)); intro gb188 hg w19 hbox hb; have n0_ := Aside0.mk (below_step (by repeat (first | (with_reducible first | exact HB.out | apply below_alloc | apply pw_below_drewN | apply below_drew1) | exact HB.out)) hb); have n1_ := Aside0.mk (hbox); have n2_ := Aside0.mk ((by rw [hg]; exact (below_size (by repeat (first | (with_reducible first | exact HB.out | apply below_alloc | apply pw_below_drewN | apply below_drew1) | exact HB.out))) : w.heap.size ≤ gb188)); have n3_ := Aside0.mk ((by rw [hg]; exact (below_size (by repeat (first | (with_reducible first | exact HB.out | apply below_alloc | apply pw_below_drewN | apply below_drew1) | exact HB.out))) : w.heap.size ≤ gb188)); clear HB; have HB := n0_; have BK188 := n1_; have GW188 := n2_; have GE188 := n3_; clear n0_ n1_ n2_ n3_; clear hb hbox hg; have hcz20_0 : w19.cell? ⟨gb188, 0, none⟩ = some (.int .i64 a0_0) := (blk_cell BK188.out 0).trans rfl; have hcz20_1 : w19.cell? ⟨gb188, 1, none⟩ = some (.slice A0_1 l0_1.length c0_1) := (blk_cell BK188.out 1).trans rfl; have hfz20_0 := blk_frozen BK188.out 0; have hfz20_1 := blk_frozen BK188.out 1) | ((with_reducible refine gate_callee (f := 49) rfl ?_); refine goesL_ (some 10) rfl rfl Try.func49 (by kernel_rfl) rfl #[.agg #[.int .i64 a0_0, .slice A0_1 l0_1.length c0_1]] rfl (by (try simp only [List.map_toArray, List.map_cons, List.map_nil]); first | done | rfl | (simp only [List.length_drop, List.length_take]; rfl)) ?_; (with_reducible refine (spec_CnfOK.calls k a0_0 _ _ l0_1 false _ ?side1 ?side2 A5.out).mono ?_); (case side1 => repeat (first | exact (Kd.C_below HR0_1.out HB.out) | (with_reducible refine Kd.C_alloc ?_ _) | (with_reducible refine Kd.C_drewN ?_ _) | (with_reducible refine Kd.C_drew ?_))); (case side2 => exact HC0_1.out); rintro e w21 ⟨rfl, hb⟩; refine ⟨_, rfl, ?_⟩; have n0_ := Aside0.mk (blk_below (g := gb188) (o := .cells #[.int .i64 a0_0, .slice A0_1 l0_1.length c0_1] 30 (0, 0)) (by (with_reducible repeat (first | refine blk_drewN ?_ _ | refine blk_drew ?_ | refine blk_alloc ?_ _)); exact BK188.out) hb); have n1_ := Aside0.mk (below_step (by repeat (first | (with_reducible first | exact HB.out | apply below_alloc | apply pw_below_drewN | apply below_drew1 | refine below_set ?_ GE188.out) | exact HB.out)) hb); clear BK188; clear HB; have BK188 := n0_; have HB := n1_; clear n0_ n1_; (try clear hb); (try clear hb2); (try clear hk); (try clear hi)))
   go_ret2
   exact ⟨by first | rfl | (simp [errW_none, errW_some] <;> rfl) | (simp [*, errW_none, errW_some] <;> rfl), by repeat (first | (with_reducible first | exact HB.out | apply below_alloc | apply pw_below_drewN | apply below_drew1 | refine below_set ?_ GE188.out) | exact HB.out)⟩
def laws_toIntS.l0 : Nat → List Int → List Int → Int → Option (List Int)
 | 0, _, _, _ => none
 | k + 1, x0, x3, x4 => if x4 < (x0.length : Int) then (if 0 ≤ x4 then (if x4 < (x3.length : Int) then (laws_toIntS.l0 k x0 (x3.set (x4 : Int).toNat (rd x0 x4)) (wrap64 (x4 + 1))) else (none)) else (none)) else (some x3)
def laws_toIntS.f (k : Nat) (l0 : List Int) : Option (List Int) := if 0 ≤ (l0.length : Int) then (if ((l0.length : Int) : Int).toNat ≤ 35184372088832 then (laws_toIntS.l0 k l0 (List.replicate ((l0.length : Int) : Int).toNat 0) 0) else (none)) else (none)
set_option maxHeartbeats 8000000 in
set_option maxRecDepth 100000 in
theorem laws_toIntS.calls (k : Nat) (A0 : Option Addr) (c0 : Nat) (l0 : List Int) (r : List Int) (w : World) (hr0 : Kd.C (Kd.int .i64) w A0 l0.length l0) (hc0 : l0.length ≤ c0) (h : laws_toIntS.f k l0 = some r) :
  Calls Try.prog 21 #[.slice A0 l0.length c0] w fun e w' => ∃ v0_ : Value, e = .returned (v0_) ∧ Kd.R (Kd.int .i64) 3 w' w.heap.size (fun _ => True) v0_ r ∧ Below w.heap.size w w' := by
 have HR0 := Aside0.mk hr0
 have HC0 := Aside0.mk hc0
 clear hr0 hc0
 have HB := Aside0.mk (Below.refl w.heap.size w)
 have H : (if 0 ≤ (l0.length : Int) then (if ((l0.length : Int) : Int).toNat ≤ 35184372088832 then (laws_toIntS.l0 k l0 (List.replicate ((l0.length : Int) : Int).toNat 0) 0) else (none)) else (none)) = some r := h
 clear h
 by_cases c2 : 0 ≤ (l0.length : Int)
 ·rw [if_pos c2] at H
  have c2b0 := eq_true c2
  have c2b1 : decide (0 ≤ (l0.length : Int)) = true := decide_eq_true c2
  clear c2
  by_cases c3 : ((l0.length : Int) : Int).toNat ≤ 35184372088832
  ·rw [if_pos c3] at H
   have c3b0 := eq_true c3
   have c3b1 : decide (((l0.length : Int) : Int).toNat ≤ 35184372088832) = true := decide_eq_true c3
   clear c3
   obtain ⟨y193, hy193⟩ : ∃ y_ : List Int, y_ = (List.replicate ((l0.length : Int) : Int).toNat 0) := ⟨_, rfl⟩
   replace H : (laws_toIntS.l0 k l0 y193 0) = some r := by first | (rw [hy193]; with_reducible exact H) | (have H2_ := (Option.bind_some _ _).symm.trans H; rw [hy193]; with_reducible exact H2_) | (have H2_ := (Option.bind_some _ _).symm.trans H; with_reducible exact H2_) | with_reducible exact H | (rw [hy193]; exact H) | exact H
   have Ny193 := Aside0.mk hy193
   clear hy193
   have H' := Aside0.mk H
   clear H
   go_enter Try.func21, Try.ntmps21
   go_wp2_with (first | ((with_reducible refine gate_dst (N := 7) rfl ?_); refine Kd.R_make (Kd.int .i64) _ 3 rfl (N := 7) rfl 37 _ _ rfl (l0.length : Int) rfl rfl Try.underlying37 (.int .i64 0) 8 info3 rfl (by decide) (by omega) 0 (ok := fun _ => True) (okp := fun _ => True) rfl (fun _ hk => hk) trivial (of_decide_eq_true (by first | (with_reducible assumption) | assumption)) (Nat.le_trans (Nat.mul_le_mul_right _ (of_decide_eq_true (by first | (with_reducible assumption) | assumption) : (l0.length : Int).toNat ≤ 35184372088832)) (by omega)) (Below.refl _ _) (Nat.le_refl _) ?_; intro v194 w4 ho5 hb hg_ hnew_; clear hg_ hnew_; (first | rw [← Ny193.out] at ho5 | (simp only [Int.reduceToNat] at ho5; rw [← Ny193.out] at ho5)); have n0_ := Aside0.mk (Kd.R_lower ho5 (below_size (by repeat (first | (with_reducible first | exact HB.out | apply below_alloc | apply pw_below_drewN | apply below_drew1) | exact HB.out)))); have n1_ := Aside0.mk (below_step (by repeat (first | (with_reducible first | exact HB.out | apply below_alloc | apply pw_below_drewN | apply below_drew1) | exact HB.out)) hb); clear HB; have HO195 := n0_; have HB := n1_; clear n0_ n1_; clear hb ho5))
   go_loopg [4] k (fun kq v4 w' => ∃ (x3_1 : List Int) (x4_1 : Int), v4 = .int .i64 x4_1 ∧ Aside0 (laws_toIntS.l0 kq l0 x3_1 x4_1 = some r) ∧ Aside0 (kq ≤ k) ∧ Aside0 (Kd.R (Kd.int .i64) 3 w' w.heap.size (fun _ => True) v194 x3_1) ∧ Aside0 (Below w.heap.size w w'))
   case atStart => exact ⟨(y193), (0), (by first | rfl | (simp; done) | (simp [*]; done)), H', ⟨Nat.le_refl _⟩, ⟨by (with_reducible repeat (first | apply Kd.R_alloc | apply Kd.R_drewN | apply Kd.R_drew)); exact HO195.out⟩, ⟨by repeat (first | (with_reducible first | exact HB.out | apply below_alloc | apply pw_below_drewN | apply below_drew1) | exact HB.out)⟩⟩
   case round =>
    clear H'
    try clear c2
    try clear c2b0
    try clear c2b1
    try clear p2
    try clear c3
    try clear c3b0
    try clear c3b1
    obtain ⟨x3_1, x4_1, rfl, HA, HK1, HO_3, HB⟩ := hrel
    cases gk with
    | zero => exact absurd HA.out (by simp [laws_toIntS.l0])
    | succ k1 =>
     have H := HA.out
     clear HA
     simp only [laws_toIntS.l0] at H
     by_cases c6 : x4_1 < (l0.length : Int)
     ·rw [if_pos c6] at H
      have c6b0 : decide (x4_1 < (l0.length : Int)) = true := decide_eq_true c6
      clear c6
      by_cases c7 : 0 ≤ x4_1
      ·rw [if_pos c7] at H
       have c7b0 : decide (0 ≤ x4_1) = true := decide_eq_true c7
       clear c7
       by_cases c8 : x4_1 < (x3_1.length : Int)
       ·rw [if_pos c8] at H
        have c8b0 : decide (x4_1 < (x3_1.length : Int)) = true := decide_eq_true c8
        clear c8
        obtain ⟨y197, hy197⟩ : ∃ y_ : List Int, y_ = (x3_1.set (x4_1 : Int).toNat (rd l0 x4_1)) := ⟨_, rfl⟩
        replace H : (laws_toIntS.l0 k1 l0 y197 (wrap64 (x4_1 + 1))) = some r := by first | (rw [hy197]; with_reducible exact H) | (have H2_ := (Option.bind_some _ _).symm.trans H; rw [hy197]; with_reducible exact H2_) | (have H2_ := (Option.bind_some _ _).symm.trans H; with_reducible exact H2_) | with_reducible exact H | (rw [hy197]; exact H) | exact H
        have Ny197 := Aside0.mk hy197
        clear hy197
        have H' := Aside0.mk H
        clear H
        have p196 : 0 ≤ (x4_1 : Int) := of_decide_eq_true (by first | (with_reducible assumption) | assumption)
        have q196 : x4_1 < (l0.length : Int) := of_decide_eq_true (by first | (with_reducible assumption) | assumption)
        obtain ⟨ad196, e196, hx196_0⟩ := Kd.at_int HR0.out x4_1 p196 q196
        cases e196
        replace hx196_0 := (HB.out.cell (World.block_lt_of_cell? w _ hx196_0)).trans hx196_0
        replace p196 := eq_true p196
        replace q196 := eq_true q196
        have p9 : 0 ≤ (x4_1 : Int) := of_decide_eq_true (by first | (with_reducible assumption) | assumption)
        have q9 : (x4_1 : Int) < ((x3_1.length : Int) : Int) := of_decide_eq_true (by first | (with_reducible assumption) | assumption)
        obtain ⟨go9, co9, eo9, gb9, gl9, cl9, HG9⟩ := Kd.R_form HO_3.out (by omega)
        (first | cases eo9 | (injection eo9 with ea_ en_ ec_; (first | subst ea_ | (injection ea_ with ea_; subst ea_)); subst ec_; clear en_))
        have GB9 := Aside0.mk gb9
        have GG9 := Aside0.mk HG9
        clear gb9 gl9 HG9
        obtain ⟨hx9_0, hf9_0⟩ := Kd.R_celln 0 HO_3.out (x4_1 : Int) p9 q9
        replace p9 := eq_true p9
        replace q9 := eq_true q9
        have HP10 := Kd.R_putg HO_3.out (x4_1 : Int) (rd l0 x4_1)
        go_wp2_with (first | ((with_reducible refine gate_store (t := 3) (p := 20) rfl ?_); refine store_event (t := 3) (p := 20) (v := ?vo_w11) (w1 := (wr.setCell ⟨go9, (x4_1 : Int).toNat, none⟩ (.int .i64 (rd l0 x4_1)))) ?hg ?ho ?hn ?hr ?_; (case ho => rfl); (case hg => rfl); (case hn => rfl); (case hr => first | (go_simp; done) | (go_simp; rfl)); intro w11 hw; have hg : wr.grownBy w11 (some go9) := (by rw [hw]; exact HP10.2); have hp_ : Kd.R (Kd.int .i64) 3 w11 w.heap.size (fun _ => True) (.slice (some ⟨go9, 0, none⟩) x3_1.length co9) y197 := (by rw [hw, Ny197.out]; exact HP10.1); clear HP10; have n0_ := Aside0.mk (hp_); have n1_ := Aside0.mk ((by rw [hw]; exact below_set (HB.out) GB9.out : Below w.heap.size w w11)); clear HO_3; clear HB; have HO_3 := n0_; have HB := n1_; clear n0_ n1_; clear hg hw hp_))
        go_roundg k1
        case measure => have := HK1.out; omega
        case rel => exact ⟨(y197), (wrap64 (x4_1 + 1)), (by first | rfl | (simp; done) | (simp [*]; done)), H', ⟨by have := HK1.out; omega⟩, ⟨by (with_reducible repeat (first | apply Kd.R_alloc | apply Kd.R_drewN | apply Kd.R_drew)); exact HO_3.out⟩, ⟨by repeat (first | (with_reducible first | exact HB.out | apply below_alloc | apply pw_below_drewN | apply below_drew1) | exact HB.out)⟩⟩
       ·rw [if_neg c8] at H
        exact absurd H (by simp)
      ·rw [if_neg c7] at H
       exact absurd H (by simp)
     ·rw [if_neg c6] at H
      have c6b0 : decide (x4_1 < (l0.length : Int)) = false := decide_eq_false c6
      clear c6
      obtain rfl := Option.some.inj H
      go_wp2
      go_ret
      exact ⟨_, by first | rfl | (simp [errW_none, errW_some] <;> rfl) | (simp [*, errW_none, errW_some] <;> rfl), by (with_reducible repeat (first | apply Kd.R_alloc | apply Kd.R_drewN | apply Kd.R_drew)); exact HO_3.out, by repeat (first | (with_reducible first | exact HB.out | apply below_alloc | apply pw_below_drewN | apply below_drew1) | exact HB.out)⟩
  ·rw [if_neg c3] at H
   exact absurd H (by simp)
 ·rw [if_neg c2] at H
  exact absurd H (by simp)
def laws_toIntSS.l0 : Nat → List (List Int) → List (List Int) → Int → Option ((List (List Int)))
 | 0, _, _, _ => none
 | k + 1, x0, x3, x4 => if x4 < (x0.length : Int) then (if 0 ≤ x4 then ((laws_toIntS.f k (rd_L1 x0 x4)).bind fun t202 => (if x4 < (x3.length : Int) then (laws_toIntSS.l0 k x0 (x3.set (x4 : Int).toNat t202) (wrap64 (x4 + 1))) else (none))) else (none)) else (some x3)
def laws_toIntSS.f (k : Nat) (l0 : List (List Int)) : Option ((List (List Int))) := if 0 ≤ (l0.length : Int) then (if ((l0.length : Int) : Int).toNat ≤ 11728124029610 then (laws_toIntSS.l0 k l0 (List.replicate ((l0.length : Int) : Int).toNat []) 0) else (none)) else (none)
set_option maxHeartbeats 8000000 in
set_option maxRecDepth 100000 in
theorem laws_toIntSS.calls (k : Nat) (A0 : Option Addr) (c0 : Nat) (l0 : List (List Int)) (r : List (List Int)) (w : World) (hr0 : Kd.C (Kd.slice 3 (Kd.int .i64)) w A0 l0.length l0) (hc0 : l0.length ≤ c0) (h : laws_toIntSS.f k l0 = some r) :
  Calls Try.prog 52 #[.slice A0 l0.length c0] w fun e w' => ∃ v0_ : Value, e = .returned (v0_) ∧ Kd.S (Kd.slice 3 (Kd.int .i64)) 37 w' w.heap.size (fun _ => True) v0_ r ∧ Below w.heap.size w w' := by
 have HR0 := Aside0.mk hr0
 have HC0 := Aside0.mk hc0
 clear hr0 hc0
 have HB := Aside0.mk (Below.refl w.heap.size w)
 have H : (if 0 ≤ (l0.length : Int) then (if ((l0.length : Int) : Int).toNat ≤ 11728124029610 then (laws_toIntSS.l0 k l0 (List.replicate ((l0.length : Int) : Int).toNat []) 0) else (none)) else (none)) = some r := h
 clear h
 by_cases c2 : 0 ≤ (l0.length : Int)
 ·rw [if_pos c2] at H
  have c2b0 := eq_true c2
  have c2b1 : decide (0 ≤ (l0.length : Int)) = true := decide_eq_true c2
  clear c2
  by_cases c3 : ((l0.length : Int) : Int).toNat ≤ 11728124029610
  ·rw [if_pos c3] at H
   have c3b0 := eq_true c3
   have c3b1 : decide (((l0.length : Int) : Int).toNat ≤ 11728124029610) = true := decide_eq_true c3
   clear c3
   obtain ⟨y198, hy198⟩ : ∃ y_ : List (List Int), y_ = (List.replicate ((l0.length : Int) : Int).toNat []) := ⟨_, rfl⟩
   replace H : (laws_toIntSS.l0 k l0 y198 0) = some r := by first | (rw [hy198]; with_reducible exact H) | (have H2_ := (Option.bind_some _ _).symm.trans H; rw [hy198]; with_reducible exact H2_) | (have H2_ := (Option.bind_some _ _).symm.trans H; with_reducible exact H2_) | with_reducible exact H | (rw [hy198]; exact H) | exact H
   have Ny198 := Aside0.mk hy198
   clear hy198
   have H' := Aside0.mk H
   clear H
   go_enter Try.func52, Try.ntmps52
   go_wp2_with (first | ((with_reducible refine gate_dst (N := 7) rfl ?_); refine Kd.S_make (Kd.slice 3 (Kd.int .i64)) _ 37 rfl (N := 7) rfl 22 _ _ rfl (l0.length : Int) rfl rfl Try.underlying22 (.slice none 0 0) 24 info37 rfl (by decide) (by omega) [] (ok := fun _ => True) (okp := fun _ => True) ⟨_, rfl, Kd.R_nil _ _ _ _ _⟩ (fun _ hk => hk) trivial (of_decide_eq_true (by first | (with_reducible assumption) | assumption)) (Nat.le_trans (Nat.mul_le_mul_right _ (of_decide_eq_true (by first | (with_reducible assumption) | assumption) : (l0.length : Int).toNat ≤ 11728124029610)) (by omega)) (Below.refl _ _) (Nat.le_refl _) ?_; intro v199 w4 ho5 hb hg_ hnew_; clear hg_ hnew_; (first | rw [← Ny198.out] at ho5 | (simp only [Int.reduceToNat] at ho5; rw [← Ny198.out] at ho5)); have n0_ := Aside0.mk (Kd.S_lower ho5 (below_size (by repeat (first | (with_reducible first | exact HB.out | apply below_alloc | apply pw_below_drewN | apply below_drew1) | exact HB.out)))); have n1_ := Aside0.mk (below_step (by repeat (first | (with_reducible first | exact HB.out | apply below_alloc | apply pw_below_drewN | apply below_drew1) | exact HB.out)) hb); clear HB; have HO200 := n0_; have HB := n1_; clear n0_ n1_; clear hb ho5))
   go_loopg [4] k (fun kq v4 w' => ∃ (x3_1 : List (List Int)) (x4_1 : Int), v4 = .int .i64 x4_1 ∧ Aside0 (laws_toIntSS.l0 kq l0 x3_1 x4_1 = some r) ∧ Aside0 (kq ≤ k) ∧ Aside0 (Kd.S (Kd.slice 3 (Kd.int .i64)) 37 w' w.heap.size (fun _ => True) v199 x3_1) ∧ Aside0 (Below w.heap.size w w'))
   case atStart => exact ⟨(y198), (0), (by first | rfl | (simp; done) | (simp [*]; done)), H', ⟨Nat.le_refl _⟩, ⟨by (with_reducible repeat (first | apply Kd.S_alloc | apply Kd.S_drewN | apply Kd.S_drew)); exact HO200.out⟩, ⟨by repeat (first | (with_reducible first | exact HB.out | apply below_alloc | apply pw_below_drewN | apply below_drew1) | exact HB.out)⟩⟩
   case round =>
    clear H'
    try clear c2
    try clear c2b0
    try clear c2b1
    try clear p2
    try clear c3
    try clear c3b0
    try clear c3b1
    try clear c5
    obtain ⟨x3_1, x4_1, rfl, HA, HK1, HO_3, HB⟩ := hrel
    cases gk with
    | zero => exact absurd HA.out (by simp [laws_toIntSS.l0])
    | succ k1 =>
     have H := HA.out
     clear HA
     simp only [laws_toIntSS.l0] at H
     by_cases c6 : x4_1 < (l0.length : Int)
     ·rw [if_pos c6] at H
      have c6b0 : decide (x4_1 < (l0.length : Int)) = true := decide_eq_true c6
      clear c6
      by_cases c7 : 0 ≤ x4_1
      ·rw [if_pos c7] at H
       have c7b0 : decide (0 ≤ x4_1) = true := decide_eq_true c7
       clear c7
       replace H := Option.bind_eq_some_iff.mp H
       obtain ⟨t202, A80, H⟩ := H
       replace H : (if x4_1 < (x3_1.length : Int) then (laws_toIntSS.l0 k1 l0 (x3_1.set (x4_1 : Int).toNat t202) (wrap64 (x4_1 + 1))) else (none)) = some r := H
       have A8 := Aside0.mk A80
       clear A80
       by_cases c9 : x4_1 < (x3_1.length : Int)
       ·rw [if_pos c9] at H
        have c9b0 : decide (x4_1 < (x3_1.length : Int)) = true := decide_eq_true c9
        clear c9
        obtain ⟨y205, hy205⟩ : ∃ y_ : List (List Int), y_ = (x3_1.set (x4_1 : Int).toNat t202) := ⟨_, rfl⟩
        replace H : (laws_toIntSS.l0 k1 l0 y205 (wrap64 (x4_1 + 1))) = some r := by first | (rw [hy205]; with_reducible exact H) | (have H2_ := (Option.bind_some _ _).symm.trans H; rw [hy205]; with_reducible exact H2_) | (have H2_ := (Option.bind_some _ _).symm.trans H; with_reducible exact H2_) | with_reducible exact H | (rw [hy205]; exact H) | exact H
        have Ny205 := Aside0.mk hy205
        clear hy205
        have H' := Aside0.mk H
        clear H
        have p201 : 0 ≤ (x4_1 : Int) := of_decide_eq_true (by first | (with_reducible assumption) | assumption)
        have q201 : x4_1 < (l0.length : Int) := of_decide_eq_true (by first | (with_reducible assumption) | assumption)
        obtain ⟨ad201, A201_0, c201_0, e201, hx201_0, hl201_0, hi201_0⟩ := at_L1 HR0.out x4_1 p201 q201
        cases e201
        replace hx201_0 := (HB.out.cell (World.block_lt_of_cell? w _ hx201_0)).trans hx201_0
        have HR201_0 := Aside0.mk hi201_0
        have HC201_0 := Aside0.mk hl201_0
        clear hi201_0 hl201_0
        replace p201 := eq_true p201
        replace q201 := eq_true q201
        go_wp2_with (first | ((with_reducible refine gate_callee (f := 21) rfl ?_); refine goesL_ (some 20) rfl rfl Try.func21 (by kernel_rfl) rfl #[.slice A201_0 (rd_L1 l0 x4_1).length c201_0] rfl (by (try simp only [List.map_toArray, List.map_cons, List.map_nil]); first | done | rfl | (simp only [List.length_drop, List.length_take]; rfl)) ?_; (with_reducible refine (laws_toIntS.calls k1 _ _ (rd_L1 l0 x4_1) t202 _ ?side1 ?side2 A8.out).mono ?_); (case side1 => repeat (first | exact (Kd.C_below HR201_0.out HB.out) | (with_reducible refine Kd.C_alloc ?_ _) | (with_reducible refine Kd.C_drewN ?_ _) | (with_reducible refine Kd.C_drew ?_))); (case side2 => exact HC201_0.out); rintro e w11 ⟨v203, rfl, ho0, hb⟩; refine ⟨_, rfl, ?_⟩; have n0_ := Aside0.mk (Kd.S_elder' (by (with_reducible repeat (first | apply Kd.S_alloc | apply Kd.S_drewN | apply Kd.S_drew)); exact HO_3.out) (Kd.R_base ho0) hb); have n1_ := Aside0.mk (Kd.R_lower ho0 (below_size (by repeat (first | (with_reducible first | exact HB.out | apply below_alloc | apply pw_below_drewN | apply below_drew1) | exact HB.out)))); have n2_ := Aside0.mk (below_step (by repeat (first | (with_reducible first | exact HB.out | apply below_alloc | apply pw_below_drewN | apply below_drew1) | exact HB.out)) hb); clear HO_3; clear HB; have HO_3 := n0_; have HO204 := n1_; have HB := n2_; clear n0_ n1_ n2_; (try clear hb); (try clear hb2); (try clear hk); (try clear hi); (try clear ho0); have p10 : 0 ≤ (x4_1 : Int) := of_decide_eq_true (by first | (with_reducible assumption) | assumption); have q10 : (x4_1 : Int) < ((x3_1.length : Int) : Int) := of_decide_eq_true (by first | (with_reducible assumption) | assumption); obtain ⟨go10, co10, eo10, gb10, gl10, cl10, HG10⟩ := Kd.S_form HO_3.out (by omega); (first | cases eo10 | (injection eo10 with ea_ en_ ec_; (first | subst ea_ | (injection ea_ with ea_; subst ea_)); subst ec_; clear en_)); have GB10 := Aside0.mk gb10; have GG10 := Aside0.mk HG10; clear gb10 gl10 HG10; obtain ⟨_, ce10, hcl10, hM10, hcc10, hfr10, _, _⟩ := Kd.S_elem HO_3.out [] (x4_1 : Int) p10 q10; obtain ⟨ve10_0, rfl, ge10_0⟩ := hM10; have hx10_0 := hcc10 0 _ rfl; have hf10_0 := hfr10 0; (try simp only [show ((Kd.slice 3 (Kd.int .i64))).sz = 1 from rfl, Nat.mul_one, Nat.add_zero] at hx10_0); (try simp only [show ((Kd.slice 3 (Kd.int .i64))).sz = 1 from rfl, Nat.mul_one, Nat.add_zero] at hf10_0); clear hcl10 hcc10 hfr10; (try clear hM10); replace p10 := eq_true p10; replace q10 := eq_true q10; have n_ := Aside0.mk (Kd.S_mono (ok' := (fun k_ => some k_ ≠ (v203 : Value).ownBlock)) HO_3.out (fun k_ hk => hk.2)); clear HO_3; have HO_3 := n_; clear n_; have HX12 := Aside0.mk (show Kd.S (Kd.slice 3 (Kd.int .i64)) 37 w11 w.heap.size (fun k_ => ((fun _ => True)) k_ ∧ ¬ ((fun k_ => some k_ = (v203 : Value).ownBlock)) k_) (.slice (some ⟨go10, 0, none⟩) x3_1.length co10) x3_1 from (by (with_reducible repeat (first | apply Kd.S_alloc | apply Kd.S_drewN | apply Kd.S_drew)); exact Kd.S_mono HO_3.out (fun k_ hk => ⟨trivial, fun e_ => hk e_⟩))); obtain ⟨oki12, ce12, hcl12, hM12, hcc12, hfr12, hoki12, hH12⟩ := Kd.S_elem HX12.out [] (x4_1 : Int) (of_decide_eq_true (by first | (with_reducible assumption) | assumption)) (by have h_ : (x4_1 : Int) < ((x3_1.length : Int) : Int) := of_decide_eq_true (by first | (with_reducible assumption) | assumption); first | exact h_ | (have e_ := (Kd.S_reads' HO_3.out).1; omega) | simpa using h_); obtain ⟨ve12_0, rfl, ge12_0⟩ := hM12; have HP12 := Kd.S_seg hH12 (of_decide_eq_true (by first | (with_reducible assumption) | assumption)) (by have h_ : (x4_1 : Int) < ((x3_1.length : Int) : Int) := of_decide_eq_true (by first | (with_reducible assumption) | assumption); first | exact h_ | (have e_ := (Kd.S_reads' HO_3.out).1; omega) | simpa using h_) (seg := [v203]) (j := 0) (show 1 ≤ 1 from by decide) (x' := t202) (Kd.M_row (Kd.R_mono (Kd.R_tight rfl (Kd.R_mono (ok' := fun k_ => ((fun _ => True)) k_ ∧ k_ ≠ go10) (Kd.R_apart' (HO204.out) (Kd.S_typed HO_3.out) (by decide)) (fun k_ hk => ⟨trivial, fun e_ => (hk.2) (by rw [e_]; rfl)⟩))) (fun _ h_ => Or.inr (h_)))) (fun _ hk => hk) (fun k_ hk_ => ((Kd.R_mono (ok' := fun k_ => ((fun _ => True)) k_ ∧ k_ ≠ go10) (Kd.R_apart' (HO204.out) (Kd.S_typed HO_3.out) (by decide)) (fun k_ hk => ⟨trivial, fun e_ => (hk.2) (by rw [e_]; rfl)⟩))).1 k_ hk_.symm); have hx12_0 := hcc12 0 _ rfl; (try simp only [show ((Kd.slice 3 (Kd.int .i64))).sz = 1 from rfl, Nat.mul_one, Nat.add_zero] at hx12_0); have hf12_0 := hfr12 0; (try simp only [show ((Kd.slice 3 (Kd.int .i64))).sz = 1 from rfl, Nat.mul_one, Nat.add_zero] at hf12_0); clear hcl12 hcc12 hfr12 hoki12 hH12; (try clear hM12); (try simp only [show ((Kd.slice 3 (Kd.int .i64))).sz = 1 from rfl, Nat.mul_one, Nat.add_zero] at HP12)) | ((with_reducible refine gate_store (t := 37) (p := 21) rfl ?_); refine store_event (t := 37) (p := 21) (v := ?vo_w13) (w1 := (w11.setCell ⟨go10, (x4_1 : Int).toNat, none⟩ (v203))) ?hg ?ho ?hn ?hr ?_; (case ho => rfl); (case hg => rfl); (case hn => rfl); (case hr => first | (go_simp; done) | (go_simp; rfl) | (obtain ⟨_, _, ev_⟩ := Kd.R_slice HO204.out; subst ev_; first | (go_simp; done) | (go_simp; rfl))); intro w13 hw; have hg : w11.grownBy w13 (some go10) := (by rw [hw]; exact HP12.2); have hp_ : Kd.S (Kd.slice 3 (Kd.int .i64)) 37 w13 w.heap.size (fun _ => True) (.slice (some ⟨go10, 0, none⟩) x3_1.length co10) y205 := (by rw [hw, Ny205.out]; exact HP12.1); clear HP12; have n0_ := Aside0.mk (hp_); have n1_ := Aside0.mk ((by rw [hw]; exact below_set (HB.out) GB10.out : Below w.heap.size w w13)); clear HO_3; clear HB; clear HO204; have HO_3 := n0_; have HB := n1_; clear n0_ n1_; clear hg hw hp_))
        go_roundg k1
        case measure => have := HK1.out; omega
        case rel => exact ⟨(y205), (wrap64 (x4_1 + 1)), (by first | rfl | (simp; done) | (simp [*]; done)), H', ⟨by have := HK1.out; omega⟩, ⟨by (with_reducible repeat (first | apply Kd.S_alloc | apply Kd.S_drewN | apply Kd.S_drew)); exact HO_3.out⟩, ⟨by repeat (first | (with_reducible first | exact HB.out | apply below_alloc | apply pw_below_drewN | apply below_drew1) | exact HB.out)⟩⟩
       ·rw [if_neg c9] at H
        exact absurd H (by simp)
      ·rw [if_neg c7] at H
       exact absurd H (by simp)
     ·rw [if_neg c6] at H
      have c6b0 : decide (x4_1 < (l0.length : Int)) = false := decide_eq_false c6
      clear c6
      obtain rfl := Option.some.inj H
      go_wp2
      go_ret
      exact ⟨_, by first | rfl | (simp [errW_none, errW_some] <;> rfl) | (simp [*, errW_none, errW_some] <;> rfl), by (with_reducible repeat (first | apply Kd.S_alloc | apply Kd.S_drewN | apply Kd.S_drew)); exact HO_3.out, by repeat (first | (with_reducible first | exact HB.out | apply below_alloc | apply pw_below_drewN | apply below_drew1) | exact HB.out)⟩
  ·rw [if_neg c3] at H
   exact absurd H (by simp)
 ·rw [if_neg c2] at H
  exact absurd H (by simp)
def laws_toCnf.f (k : Nat) (a0_0 : Int) (l0_1 : List (List Int)) : Option (Int × (List (List Int))) := (laws_toIntSS.f k l0_1).bind fun t209 => (some (a0_0, t209))
set_option maxHeartbeats 8000000 in
set_option maxRecDepth 100000 in
theorem laws_toCnf.calls (k : Nat) (a0_0 : Int) (A0_1 : Option Addr) (c0_1 : Nat) (l0_1 : List (List Int)) (r1 : Int) (r2 : List (List Int)) (w : World) (hr0_1 : Kd.C (Kd.slice 3 (Kd.int .i64)) w A0_1 l0_1.length l0_1) (hc0_1 : l0_1.length ≤ c0_1) (h : laws_toCnf.f k a0_0 l0_1 = some (r1, r2)) :
  Calls Try.prog 15 #[.agg #[.int .i64 a0_0, .slice A0_1 l0_1.length c0_1]] w fun e w' => ∃ v1_ : Value, e = .returned (.agg #[.int .i64 r1, v1_]) ∧ Kd.S (Kd.slice 3 (Kd.int .i64)) 37 w' w.heap.size (fun _ => True) v1_ r2 ∧ Below w.heap.size w w' := by
 have hu24 := Try.underlying24
 have hu30 := Try.underlying30
 have HR0_1 := Aside0.mk hr0_1
 have HC0_1 := Aside0.mk hc0_1
 clear hr0_1 hc0_1
 have HB := Aside0.mk (Below.refl w.heap.size w)
 have H : ((laws_toIntSS.f k l0_1).bind fun t209 => (some (a0_0, t209))) = some (r1, r2) := h
 clear h
 replace H := Option.bind_eq_some_iff.mp H
 obtain ⟨t209, A20, H⟩ := H
 replace H : (some (a0_0, t209)) = some (r1, r2) := H
 have A2 := Aside0.mk A20
 clear A20
 simp only [Option.some.injEq, Prod.mk.injEq] at H
 obtain ⟨rfl, rfl⟩ := H
 go_enter Try.func15, Try.ntmps15
 go_wp2_with (first | ((with_reducible refine gate_dst (N := 1) rfl ?_); refine box_event ?hg (N := 1) ?hd (cs := #[.int .i64 a0_0, .slice A0_1 l0_1.length c0_1]) (t := 24) ?hr ?_; (case hd => rfl); (case hg => rfl); (case hr => first | (go_simp; done) | (go_simp; rfl)); intro gb206 hg w3 hbox hb; have n0_ := Aside0.mk (below_step (by repeat (first | (with_reducible first | exact HB.out | apply below_alloc | apply pw_below_drewN | apply below_drew1) | exact HB.out)) hb); have n1_ := Aside0.mk (hbox); have n2_ := Aside0.mk ((by rw [hg]; exact (below_size (by repeat (first | (with_reducible first | exact HB.out | apply below_alloc | apply pw_below_drewN | apply below_drew1) | exact HB.out))) : w.heap.size ≤ gb206)); have n3_ := Aside0.mk ((by rw [hg]; exact (below_size (by repeat (first | (with_reducible first | exact HB.out | apply below_alloc | apply pw_below_drewN | apply below_drew1) | exact HB.out))) : w.heap.size ≤ gb206)); clear HB; have HB := n0_; have BK206 := n1_; have GW206 := n2_; have GE206 := n3_; clear n0_ n1_ n2_ n3_; clear hb hbox hg) | ((with_reducible refine gate_dst (N := 2) rfl ?_); refine box_event ?hg (N := 2) ?hd (cs := #[.int .i64 0, .slice none 0 0]) (t := 30) ?hr ?_; (case hd => rfl); (case hg => rfl); (case hr => first | (go_simp; done) | (go_simp; rfl)); intro gb207 hg w4 hbox hb; have n0_ := Aside0.mk (blk_below (g := gb206) (o := .cells #[.int .i64 a0_0, .slice A0_1 l0_1.length c0_1] 24 (0, 0)) (by (with_reducible repeat (first | refine blk_drewN ?_ _ | refine blk_drew ?_ | refine blk_alloc ?_ _)); exact BK206.out) hb); have n1_ := Aside0.mk (below_step (by repeat (first | (with_reducible first | exact HB.out | apply below_alloc | apply pw_below_drewN | apply below_drew1 | refine below_set ?_ GE206.out) | exact HB.out)) hb); have n2_ := Aside0.mk (hbox); have n3_ := Aside0.mk ((by rw [hg]; exact (below_size (by repeat (first | (with_reducible first | exact HB.out | apply below_alloc | apply pw_below_drewN | apply below_drew1 | refine below_set ?_ GE206.out) | exact HB.out))) : w.heap.size ≤ gb207)); have n4_ := Aside0.mk ((by rw [hg]; exact (below_size (by repeat (first | (with_reducible first | exact HB.out | apply below_alloc | apply pw_below_drewN | apply below_drew1 | refine below_set ?_ GE206.out) | exact HB.out))) : w.heap.size ≤ gb207)); have n5_ := Aside0.mk ((by rw [hg]; exact Nat.ne_of_lt (blk_lt (g := gb206) (o := .cells #[.int .i64 a0_0, .slice A0_1 l0_1.length c0_1] 24 (0, 0)) (by (with_reducible repeat (first | refine blk_drewN ?_ _ | refine blk_drew ?_ | refine blk_alloc ?_ _)); exact BK206.out)) : gb206 ≠ gb207)); have n6_ := Aside0.mk ((by rw [hg]; exact Nat.ne_of_gt (blk_lt (g := gb206) (o := .cells #[.int .i64 a0_0, .slice A0_1 l0_1.length c0_1] 24 (0, 0)) (by (with_reducible repeat (first | refine blk_drewN ?_ _ | refine blk_drew ?_ | refine blk_alloc ?_ _)); exact BK206.out)) : gb207 ≠ gb206)); clear BK206; clear HB; have BK206 := n0_; have HB := n1_; have BK207 := n2_; have GW207 := n3_; have GE207 := n4_; have NB206_207 := n5_; have NB207_206 := n6_; clear n0_ n1_ n2_ n3_ n4_ n5_ n6_; clear hb hbox hg) | ((with_reducible refine gate_dst (N := 3) rfl ?_); refine box_event ?hg (N := 3) ?hd (cs := #[.int .i64 0, .slice none 0 0]) (t := 30) ?hr ?_; (case hd => rfl); (case hg => rfl); (case hr => first | (go_simp; done) | (go_simp; rfl)); intro gb208 hg w5 hbox hb; have n0_ := Aside0.mk (blk_below (g := gb206) (o := .cells #[.int .i64 a0_0, .slice A0_1 l0_1.length c0_1] 24 (0, 0)) (by (with_reducible repeat (first | refine blk_drewN ?_ _ | refine blk_drew ?_ | refine blk_alloc ?_ _)); exact BK206.out) hb); have n1_ := Aside0.mk (blk_below (g := gb207) (o := .cells #[.int .i64 0, .slice none 0 0] 30 (0, 0)) (by (with_reducible repeat (first | refine blk_drewN ?_ _ | refine blk_drew ?_ | refine blk_alloc ?_ _)); exact BK207.out) hb); have n2_ := Aside0.mk (below_step (by repeat (first | (with_reducible first | exact HB.out | apply below_alloc | apply pw_below_drewN | apply below_drew1 | refine below_set ?_ GE206.out | refine below_set ?_ GE207.out) | exact HB.out)) hb); have n3_ := Aside0.mk (hbox); have n4_ := Aside0.mk ((by rw [hg]; exact (below_size (by repeat (first | (with_reducible first | exact HB.out | apply below_alloc | apply pw_below_drewN | apply below_drew1 | refine below_set ?_ GE206.out | refine below_set ?_ GE207.out) | exact HB.out))) : w.heap.size ≤ gb208)); have n5_ := Aside0.mk ((by rw [hg]; exact (below_size (by repeat (first | (with_reducible first | exact HB.out | apply below_alloc | apply pw_below_drewN | apply below_drew1 | refine below_set ?_ GE206.out | refine below_set ?_ GE207.out) | exact HB.out))) : w.heap.size ≤ gb208)); have n6_ := Aside0.mk ((by rw [hg]; exact Nat.ne_of_lt (blk_lt (g := gb206) (o := .cells #[.int .i64 a0_0, .slice A0_1 l0_1.length c0_1] 24 (0, 0)) (by (with_reducible repeat (first | refine blk_drewN ?_ _ | refine blk_drew ?_ | refine blk_alloc ?_ _)); exact BK206.out)) : gb206 ≠ gb208)); have n7_ := Aside0.mk ((by rw [hg]; exact Nat.ne_of_gt (blk_lt (g := gb206) (o := .cells #[.int .i64 a0_0, .slice A0_1 l0_1.length c0_1] 24 (0, 0)) (by (with_reducible repeat (first | refine blk_drewN ?_ _ | refine blk_drew ?_ | refine blk_alloc ?_ _)); exact BK206.out)) : gb208 ≠ gb206)); have n8_ := Aside0.mk ((by rw [hg]; exact Nat.ne_of_lt (blk_lt (g := gb207) (o := .cells #[.int .i64 0, .slice none 0 0] 30 (0, 0)) (by (with_reducible repeat (first | refine blk_drewN ?_ _ | refine blk_drew ?_ | refine blk_alloc ?_ _)); exact BK207.out)) : gb207 ≠ gb208)); have n9_ := Aside0.mk ((by rw [hg]; exact Nat.ne_of_gt (blk_lt (g := gb207) (o := .cells #[.int .i64 0, .slice none 0 0] 30 (0, 0)) (by (with_reducible repeat (first | refine blk_drewN ?_ _ | refine blk_drew ?_ | refine blk_alloc ?_ _)); exact BK207.out)) : gb208 ≠ gb207)); clear BK206; clear BK207; clear HB; have BK206 := n0_; have BK207 := n1_; have HB := n2_; have BK208 := n3_; have GW208 := n4_; have GE208 := n5_; have NB206_208 := n6_; have NB208_206 := n7_; have NB207_208 := n8_; have NB208_207 := n9_; clear n0_ n1_ n2_ n3_ n4_ n5_ n6_ n7_ n8_ n9_; clear hb hbox hg; have hnb6 := NB206_207.out; have hnc6 := NB207_206.out; have hnb7 := NB206_208.out; have hnc7 := NB208_206.out; have hcz8_0 : w5.cell? ⟨gb206, 0, none⟩ = some (.int .i64 a0_0) := (blk_cell BK206.out 0).trans rfl; have hcz8_1 : w5.cell? ⟨gb206, 1, none⟩ = some (.slice A0_1 l0_1.length c0_1) := (blk_cell BK206.out 1).trans rfl; have hfz8_0 := blk_frozen BK206.out 0; have hfz8_1 := blk_frozen BK206.out 1; have hnb9 := NB208_207.out; have hnc9 := NB207_208.out; have hcz10_0 : w5.cell? ⟨gb208, 0, none⟩ = some (.int .i64 0) := (blk_cell BK208.out 0).trans rfl; have hcz10_1 : w5.cell? ⟨gb208, 1, none⟩ = some (.slice none 0 0) := (blk_cell BK208.out 1).trans rfl; have hfz10_0 := blk_frozen BK208.out 0; have hfz10_1 := blk_frozen BK208.out 1) | ((with_reducible refine gate_callee (f := 52) rfl ?_); refine goesL_ (some 9) rfl rfl Try.func52 (by kernel_rfl) rfl #[.slice A0_1 l0_1.length c0_1] rfl (by (try simp only [List.map_toArray, List.map_cons, List.map_nil]); first | done | rfl | (simp only [List.length_drop, List.length_take]; rfl)) ?_; (with_reducible refine (laws_toIntSS.calls k _ _ l0_1 t209 _ ?side1 ?side2 A2.out).mono ?_); (case side1 => exact Kd.C_below HR0_1.out (by repeat (first | (with_reducible first | exact HB.out | apply below_alloc | apply pw_below_drewN | apply below_drew1 | refine below_set ?_ GE206.out | refine below_set ?_ GE207.out | refine below_set ?_ GE208.out) | exact HB.out))); (case side2 => exact HC0_1.out); rintro e w11 ⟨v210, rfl, ho0, hb⟩; refine ⟨_, rfl, ?_⟩; have n0_ := Aside0.mk (Kd.S_lower ho0 (below_size (by repeat (first | (with_reducible first | exact HB.out | apply below_alloc | apply pw_below_drewN | apply below_drew1 | refine below_set ?_ GE206.out | refine below_set ?_ GE207.out | refine below_set ?_ GE208.out) | exact HB.out)))); have n1_ := Aside0.mk (blk_below (g := gb206) (o := .cells #[.int .i64 a0_0, .slice A0_1 l0_1.length c0_1] 24 (0, 0)) (by (with_reducible repeat (first | refine blk_drewN ?_ _ | refine blk_drew ?_ | refine blk_alloc ?_ _)); refine blk_far ?_ NB206_208.out _; (with_reducible repeat (first | refine blk_drewN ?_ _ | refine blk_drew ?_ | refine blk_alloc ?_ _)); exact BK206.out) hb); have n2_ := Aside0.mk (blk_below (g := gb207) (o := .cells #[.int .i64 0, .slice none 0 0] 30 (0, 0)) (by (with_reducible repeat (first | refine blk_drewN ?_ _ | refine blk_drew ?_ | refine blk_alloc ?_ _)); refine blk_far ?_ NB207_208.out _; (with_reducible repeat (first | refine blk_drewN ?_ _ | refine blk_drew ?_ | refine blk_alloc ?_ _)); exact BK207.out) hb); have n3_ := Aside0.mk (blk_below (g := gb208) (o := .cells #[.int .i64 a0_0, .slice none 0 0] 30 (0, 0)) (by (with_reducible repeat (first | refine blk_drewN ?_ _ | refine blk_drew ?_ | refine blk_alloc ?_ _)); refine blk_put (cs := #[.int .i64 0, .slice none 0 0]) ?_ 0 _ rfl; (with_reducible repeat (first | refine blk_drewN ?_ _ | refine blk_drew ?_ | refine blk_alloc ?_ _)); exact BK208.out) hb); have n4_ := Aside0.mk (below_step (by repeat (first | (with_reducible first | exact HB.out | apply below_alloc | apply pw_below_drewN | apply below_drew1 | refine below_set ?_ GE206.out | refine below_set ?_ GE207.out | refine below_set ?_ GE208.out) | exact HB.out)) hb); clear BK206; clear BK207; clear BK208; clear HB; have HO211 := n0_; have BK206 := n1_; have BK207 := n2_; have BK208 := n3_; have HB := n4_; clear n0_ n1_ n2_ n3_ n4_; (try clear hb); (try clear hb2); (try clear hk); (try clear hi); (try clear ho0); obtain ⟨Ao12, co12, eo12⟩ := Kd.S_slice HO211.out; subst eo12; have hcz13_0 : w11.cell? ⟨gb208, 0, none⟩ = some (.int .i64 a0_0) := (blk_cell BK208.out 0).trans rfl; have hcz13_1 : w11.cell? ⟨gb208, 1, none⟩ = some (.slice none 0 0) := (blk_cell BK208.out 1).trans rfl; have hfz13_0 := blk_frozen BK208.out 0; have hfz13_1 := blk_frozen BK208.out 1; have hcz14_0 : w11.cell? ⟨gb207, 0, none⟩ = some (.int .i64 0) := (blk_cell BK207.out 0).trans rfl; have hcz14_1 : w11.cell? ⟨gb207, 1, none⟩ = some (.slice none 0 0) := (blk_cell BK207.out 1).trans rfl; have hfz14_0 := blk_frozen BK207.out 0; have hfz14_1 := blk_frozen BK207.out 1))
 refine bodyPost_ret (results_cell_row rfl _ _ gb207 30 #[.int .i64 a0_0, .slice Ao12 t209.length co12] (0, 0) _ rfl (by (with_reducible repeat (first | refine blk_drewN ?_ _ | refine blk_drew ?_ | refine blk_alloc ?_ _)); refine blk_put (cs := #[.int .i64 a0_0, .slice none 0 0]) ?_ 1 _ rfl; (with_reducible repeat (first | refine blk_drewN ?_ _ | refine blk_drew ?_ | refine blk_alloc ?_ _)); refine blk_put (cs := #[.int .i64 0, .slice none 0 0]) ?_ 0 _ rfl; (with_reducible repeat (first | refine blk_drewN ?_ _ | refine blk_drew ?_ | refine blk_alloc ?_ _)); refine blk_far ?_ NB207_208.out _; (with_reducible repeat (first | refine blk_drewN ?_ _ | refine blk_drew ?_ | refine blk_alloc ?_ _)); exact BK207.out) Try.underlying30 rfl (by kernel_rfl)) rfl ?_
 exact ⟨_, by first | rfl | (simp [errW_none, errW_some] <;> rfl) | (simp [*, errW_none, errW_some] <;> rfl), by (with_reducible repeat (first | apply Kd.S_alloc | apply Kd.S_drewN | apply Kd.S_drew)); exact Kd.S_mono (Kd.S_far (p := ⟨gb207, 1, none⟩) (Kd.S_far (p := ⟨gb207, 0, none⟩) (Kd.S_far (p := ⟨gb208, 1, none⟩) (Kd.S_types (Kd.S_types HO211.out BK208.out (by decide)) BK207.out (by decide)) (fun _ hk => hk.1.2) (.slice Ao12 t209.length co12)) (fun _ hk => hk.2) (.int .i64 a0_0)) (fun _ hk => hk.2) (.slice Ao12 t209.length co12)) (fun _ hk => trivial), by repeat (first | (with_reducible first | exact HB.out | apply below_alloc | apply pw_below_drewN | apply below_drew1 | refine below_set ?_ GE206.out | refine below_set ?_ GE207.out | refine below_set ?_ GE208.out) | exact HB.out)⟩
def laws_toStep.f (k : Nat) (a0_0 : Bool) (l0_1 : List Int) : Option (Bool × List Int) := (laws_toIntS.f k l0_1).bind fun t215 => (some (a0_0, t215))
set_option maxHeartbeats 8000000 in
set_option maxRecDepth 100000 in
theorem laws_toStep.calls (k : Nat) (a0_0 : Bool) (A0_1 : Option Addr) (c0_1 : Nat) (l0_1 : List Int) (r1 : Bool) (r2 : List Int) (w : World) (hr0_1 : Kd.C (Kd.int .i64) w A0_1 l0_1.length l0_1) (hc0_1 : l0_1.length ≤ c0_1) (h : laws_toStep.f k a0_0 l0_1 = some (r1, r2)) :
  Calls Try.prog 53 #[.agg #[.bool a0_0, .slice A0_1 l0_1.length c0_1]] w fun e w' => ∃ v1_ : Value, e = .returned (.agg #[.bool r1, v1_]) ∧ Kd.R (Kd.int .i64) 3 w' w.heap.size (fun _ => True) v1_ r2 ∧ Below w.heap.size w w' := by
 have hu64 := Try.underlying64
 have hu68 := Try.underlying68
 have HR0_1 := Aside0.mk hr0_1
 have HC0_1 := Aside0.mk hc0_1
 clear hr0_1 hc0_1
 have HB := Aside0.mk (Below.refl w.heap.size w)
 have H : ((laws_toIntS.f k l0_1).bind fun t215 => (some (a0_0, t215))) = some (r1, r2) := h
 clear h
 replace H := Option.bind_eq_some_iff.mp H
 obtain ⟨t215, A20, H⟩ := H
 replace H : (some (a0_0, t215)) = some (r1, r2) := H
 have A2 := Aside0.mk A20
 clear A20
 simp only [Option.some.injEq, Prod.mk.injEq] at H
 obtain ⟨rfl, rfl⟩ := H
 go_enter Try.func53, Try.ntmps53
 go_wp2_with (first | ((with_reducible refine gate_dst (N := 1) rfl ?_); refine box_event ?hg (N := 1) ?hd (cs := #[.bool a0_0, .slice A0_1 l0_1.length c0_1]) (t := 64) ?hr ?_; (case hd => rfl); (case hg => rfl); (case hr => first | (go_simp; done) | (go_simp; rfl)); intro gb212 hg w3 hbox hb; have n0_ := Aside0.mk (below_step (by repeat (first | (with_reducible first | exact HB.out | apply below_alloc | apply pw_below_drewN | apply below_drew1) | exact HB.out)) hb); have n1_ := Aside0.mk (hbox); have n2_ := Aside0.mk ((by rw [hg]; exact (below_size (by repeat (first | (with_reducible first | exact HB.out | apply below_alloc | apply pw_below_drewN | apply below_drew1) | exact HB.out))) : w.heap.size ≤ gb212)); have n3_ := Aside0.mk ((by rw [hg]; exact (below_size (by repeat (first | (with_reducible first | exact HB.out | apply below_alloc | apply pw_below_drewN | apply below_drew1) | exact HB.out))) : w.heap.size ≤ gb212)); clear HB; have HB := n0_; have BK212 := n1_; have GW212 := n2_; have GE212 := n3_; clear n0_ n1_ n2_ n3_; clear hb hbox hg) | ((with_reducible refine gate_dst (N := 2) rfl ?_); refine box_event ?hg (N := 2) ?hd (cs := #[.bool false, .slice none 0 0]) (t := 68) ?hr ?_; (case hd => rfl); (case hg => rfl); (case hr => first | (go_simp; done) | (go_simp; rfl)); intro gb213 hg w4 hbox hb; have n0_ := Aside0.mk (blk_below (g := gb212) (o := .cells #[.bool a0_0, .slice A0_1 l0_1.length c0_1] 64 (0, 0)) (by (with_reducible repeat (first | refine blk_drewN ?_ _ | refine blk_drew ?_ | refine blk_alloc ?_ _)); exact BK212.out) hb); have n1_ := Aside0.mk (below_step (by repeat (first | (with_reducible first | exact HB.out | apply below_alloc | apply pw_below_drewN | apply below_drew1 | refine below_set ?_ GE212.out) | exact HB.out)) hb); have n2_ := Aside0.mk (hbox); have n3_ := Aside0.mk ((by rw [hg]; exact (below_size (by repeat (first | (with_reducible first | exact HB.out | apply below_alloc | apply pw_below_drewN | apply below_drew1 | refine below_set ?_ GE212.out) | exact HB.out))) : w.heap.size ≤ gb213)); have n4_ := Aside0.mk ((by rw [hg]; exact (below_size (by repeat (first | (with_reducible first | exact HB.out | apply below_alloc | apply pw_below_drewN | apply below_drew1 | refine below_set ?_ GE212.out) | exact HB.out))) : w.heap.size ≤ gb213)); have n5_ := Aside0.mk ((by rw [hg]; exact Nat.ne_of_lt (blk_lt (g := gb212) (o := .cells #[.bool a0_0, .slice A0_1 l0_1.length c0_1] 64 (0, 0)) (by (with_reducible repeat (first | refine blk_drewN ?_ _ | refine blk_drew ?_ | refine blk_alloc ?_ _)); exact BK212.out)) : gb212 ≠ gb213)); have n6_ := Aside0.mk ((by rw [hg]; exact Nat.ne_of_gt (blk_lt (g := gb212) (o := .cells #[.bool a0_0, .slice A0_1 l0_1.length c0_1] 64 (0, 0)) (by (with_reducible repeat (first | refine blk_drewN ?_ _ | refine blk_drew ?_ | refine blk_alloc ?_ _)); exact BK212.out)) : gb213 ≠ gb212)); clear BK212; clear HB; have BK212 := n0_; have HB := n1_; have BK213 := n2_; have GW213 := n3_; have GE213 := n4_; have NB212_213 := n5_; have NB213_212 := n6_; clear n0_ n1_ n2_ n3_ n4_ n5_ n6_; clear hb hbox hg) | ((with_reducible refine gate_dst (N := 3) rfl ?_); refine box_event ?hg (N := 3) ?hd (cs := #[.bool false, .slice none 0 0]) (t := 68) ?hr ?_; (case hd => rfl); (case hg => rfl); (case hr => first | (go_simp; done) | (go_simp; rfl)); intro gb214 hg w5 hbox hb; have n0_ := Aside0.mk (blk_below (g := gb212) (o := .cells #[.bool a0_0, .slice A0_1 l0_1.length c0_1] 64 (0, 0)) (by (with_reducible repeat (first | refine blk_drewN ?_ _ | refine blk_drew ?_ | refine blk_alloc ?_ _)); exact BK212.out) hb); have n1_ := Aside0.mk (blk_below (g := gb213) (o := .cells #[.bool false, .slice none 0 0] 68 (0, 0)) (by (with_reducible repeat (first | refine blk_drewN ?_ _ | refine blk_drew ?_ | refine blk_alloc ?_ _)); exact BK213.out) hb); have n2_ := Aside0.mk (below_step (by repeat (first | (with_reducible first | exact HB.out | apply below_alloc | apply pw_below_drewN | apply below_drew1 | refine below_set ?_ GE212.out | refine below_set ?_ GE213.out) | exact HB.out)) hb); have n3_ := Aside0.mk (hbox); have n4_ := Aside0.mk ((by rw [hg]; exact (below_size (by repeat (first | (with_reducible first | exact HB.out | apply below_alloc | apply pw_below_drewN | apply below_drew1 | refine below_set ?_ GE212.out | refine below_set ?_ GE213.out) | exact HB.out))) : w.heap.size ≤ gb214)); have n5_ := Aside0.mk ((by rw [hg]; exact (below_size (by repeat (first | (with_reducible first | exact HB.out | apply below_alloc | apply pw_below_drewN | apply below_drew1 | refine below_set ?_ GE212.out | refine below_set ?_ GE213.out) | exact HB.out))) : w.heap.size ≤ gb214)); have n6_ := Aside0.mk ((by rw [hg]; exact Nat.ne_of_lt (blk_lt (g := gb212) (o := .cells #[.bool a0_0, .slice A0_1 l0_1.length c0_1] 64 (0, 0)) (by (with_reducible repeat (first | refine blk_drewN ?_ _ | refine blk_drew ?_ | refine blk_alloc ?_ _)); exact BK212.out)) : gb212 ≠ gb214)); have n7_ := Aside0.mk ((by rw [hg]; exact Nat.ne_of_gt (blk_lt (g := gb212) (o := .cells #[.bool a0_0, .slice A0_1 l0_1.length c0_1] 64 (0, 0)) (by (with_reducible repeat (first | refine blk_drewN ?_ _ | refine blk_drew ?_ | refine blk_alloc ?_ _)); exact BK212.out)) : gb214 ≠ gb212)); have n8_ := Aside0.mk ((by rw [hg]; exact Nat.ne_of_lt (blk_lt (g := gb213) (o := .cells #[.bool false, .slice none 0 0] 68 (0, 0)) (by (with_reducible repeat (first | refine blk_drewN ?_ _ | refine blk_drew ?_ | refine blk_alloc ?_ _)); exact BK213.out)) : gb213 ≠ gb214)); have n9_ := Aside0.mk ((by rw [hg]; exact Nat.ne_of_gt (blk_lt (g := gb213) (o := .cells #[.bool false, .slice none 0 0] 68 (0, 0)) (by (with_reducible repeat (first | refine blk_drewN ?_ _ | refine blk_drew ?_ | refine blk_alloc ?_ _)); exact BK213.out)) : gb214 ≠ gb213)); clear BK212; clear BK213; clear HB; have BK212 := n0_; have BK213 := n1_; have HB := n2_; have BK214 := n3_; have GW214 := n4_; have GE214 := n5_; have NB212_214 := n6_; have NB214_212 := n7_; have NB213_214 := n8_; have NB214_213 := n9_; clear n0_ n1_ n2_ n3_ n4_ n5_ n6_ n7_ n8_ n9_; clear hb hbox hg; have hnb6 := NB212_213.out; have hnc6 := NB213_212.out; have hnb7 := NB212_214.out; have hnc7 := NB214_212.out; have hcz8_0 : w5.cell? ⟨gb212, 0, none⟩ = some (.bool a0_0) := (blk_cell BK212.out 0).trans rfl; have hcz8_1 : w5.cell? ⟨gb212, 1, none⟩ = some (.slice A0_1 l0_1.length c0_1) := (blk_cell BK212.out 1).trans rfl; have hfz8_0 := blk_frozen BK212.out 0; have hfz8_1 := blk_frozen BK212.out 1; have hnb9 := NB214_213.out; have hnc9 := NB213_214.out; have hcz10_0 : w5.cell? ⟨gb214, 0, none⟩ = some (.bool false) := (blk_cell BK214.out 0).trans rfl; have hcz10_1 : w5.cell? ⟨gb214, 1, none⟩ = some (.slice none 0 0) := (blk_cell BK214.out 1).trans rfl; have hfz10_0 := blk_frozen BK214.out 0; have hfz10_1 := blk_frozen BK214.out 1) | ((with_reducible refine gate_callee (f := 21) rfl ?_); refine goesL_ (some 9) rfl rfl Try.func21 (by kernel_rfl) rfl #[.slice A0_1 l0_1.length c0_1] rfl (by (try simp only [List.map_toArray, List.map_cons, List.map_nil]); first | done | rfl | (simp only [List.length_drop, List.length_take]; rfl)) ?_; (with_reducible refine (laws_toIntS.calls k _ _ l0_1 t215 _ ?side1 ?side2 A2.out).mono ?_); (case side1 => exact Kd.C_below HR0_1.out (by repeat (first | (with_reducible first | exact HB.out | apply below_alloc | apply pw_below_drewN | apply below_drew1 | refine below_set ?_ GE212.out | refine below_set ?_ GE213.out | refine below_set ?_ GE214.out) | exact HB.out))); (case side2 => exact HC0_1.out); rintro e w11 ⟨v216, rfl, ho0, hb⟩; refine ⟨_, rfl, ?_⟩; have n0_ := Aside0.mk (Kd.R_lower ho0 (below_size (by repeat (first | (with_reducible first | exact HB.out | apply below_alloc | apply pw_below_drewN | apply below_drew1 | refine below_set ?_ GE212.out | refine below_set ?_ GE213.out | refine below_set ?_ GE214.out) | exact HB.out)))); have n1_ := Aside0.mk (blk_below (g := gb212) (o := .cells #[.bool a0_0, .slice A0_1 l0_1.length c0_1] 64 (0, 0)) (by (with_reducible repeat (first | refine blk_drewN ?_ _ | refine blk_drew ?_ | refine blk_alloc ?_ _)); refine blk_far ?_ NB212_214.out _; (with_reducible repeat (first | refine blk_drewN ?_ _ | refine blk_drew ?_ | refine blk_alloc ?_ _)); exact BK212.out) hb); have n2_ := Aside0.mk (blk_below (g := gb213) (o := .cells #[.bool false, .slice none 0 0] 68 (0, 0)) (by (with_reducible repeat (first | refine blk_drewN ?_ _ | refine blk_drew ?_ | refine blk_alloc ?_ _)); refine blk_far ?_ NB213_214.out _; (with_reducible repeat (first | refine blk_drewN ?_ _ | refine blk_drew ?_ | refine blk_alloc ?_ _)); exact BK213.out) hb); have n3_ := Aside0.mk (blk_below (g := gb214) (o := .cells #[.bool a0_0, .slice none 0 0] 68 (0, 0)) (by (with_reducible repeat (first | refine blk_drewN ?_ _ | refine blk_drew ?_ | refine blk_alloc ?_ _)); refine blk_put (cs := #[.bool false, .slice none 0 0]) ?_ 0 _ rfl; (with_reducible repeat (first | refine blk_drewN ?_ _ | refine blk_drew ?_ | refine blk_alloc ?_ _)); exact BK214.out) hb); have n4_ := Aside0.mk (below_step (by repeat (first | (with_reducible first | exact HB.out | apply below_alloc | apply pw_below_drewN | apply below_drew1 | refine below_set ?_ GE212.out | refine below_set ?_ GE213.out | refine below_set ?_ GE214.out) | exact HB.out)) hb); clear BK212; clear BK213; clear BK214; clear HB; have HO217 := n0_; have BK212 := n1_; have BK213 := n2_; have BK214 := n3_; have HB := n4_; clear n0_ n1_ n2_ n3_ n4_; (try clear hb); (try clear hb2); (try clear hk); (try clear hi); (try clear ho0); obtain ⟨Ao12, co12, eo12⟩ := Kd.R_slice HO217.out; subst eo12; have hcz13_0 : w11.cell? ⟨gb214, 0, none⟩ = some (.bool a0_0) := (blk_cell BK214.out 0).trans rfl; have hcz13_1 : w11.cell? ⟨gb214, 1, none⟩ = some (.slice none 0 0) := (blk_cell BK214.out 1).trans rfl; have hfz13_0 := blk_frozen BK214.out 0; have hfz13_1 := blk_frozen BK214.out 1; have hcz14_0 : w11.cell? ⟨gb213, 0, none⟩ = some (.bool false) := (blk_cell BK213.out 0).trans rfl; have hcz14_1 : w11.cell? ⟨gb213, 1, none⟩ = some (.slice none 0 0) := (blk_cell BK213.out 1).trans rfl; have hfz14_0 := blk_frozen BK213.out 0; have hfz14_1 := blk_frozen BK213.out 1))
 refine bodyPost_ret (results_cell_row rfl _ _ gb213 68 #[.bool a0_0, .slice Ao12 t215.length co12] (0, 0) _ rfl (by (with_reducible repeat (first | refine blk_drewN ?_ _ | refine blk_drew ?_ | refine blk_alloc ?_ _)); refine blk_put (cs := #[.bool a0_0, .slice none 0 0]) ?_ 1 _ rfl; (with_reducible repeat (first | refine blk_drewN ?_ _ | refine blk_drew ?_ | refine blk_alloc ?_ _)); refine blk_put (cs := #[.bool false, .slice none 0 0]) ?_ 0 _ rfl; (with_reducible repeat (first | refine blk_drewN ?_ _ | refine blk_drew ?_ | refine blk_alloc ?_ _)); refine blk_far ?_ NB213_214.out _; (with_reducible repeat (first | refine blk_drewN ?_ _ | refine blk_drew ?_ | refine blk_alloc ?_ _)); exact BK213.out) Try.underlying68 rfl (by kernel_rfl)) rfl ?_
 exact ⟨_, by first | rfl | (simp [errW_none, errW_some] <;> rfl) | (simp [*, errW_none, errW_some] <;> rfl), by (with_reducible repeat (first | apply Kd.R_alloc | apply Kd.R_drewN | apply Kd.R_drew)); exact Kd.R_mono (Kd.R_far (p := ⟨gb213, 1, none⟩) (Kd.R_far (p := ⟨gb213, 0, none⟩) (Kd.R_far (p := ⟨gb214, 1, none⟩) (Kd.R_types (Kd.R_types HO217.out BK214.out (by decide)) BK213.out (by decide)) (fun _ hk => hk.1.2) (.slice Ao12 t215.length co12)) (fun _ hk => hk.2) (.bool a0_0)) (fun _ hk => hk.2) (.slice Ao12 t215.length co12)) (fun _ hk => trivial), by repeat (first | (with_reducible first | exact HB.out | apply below_alloc | apply pw_below_drewN | apply below_drew1 | refine below_set ?_ GE212.out | refine below_set ?_ GE213.out | refine below_set ?_ GE214.out) | exact HB.out)⟩
def laws_toStepS.l0 : Nat → List (S64) → List (S68) → Int → Option ((List (S68)))
 | 0, _, _, _ => none
 | k + 1, x0, x3, x4 => if x4 < (x0.length : Int) then (if 0 ≤ x4 then ((laws_toStep.f k ((rd_T64 x0 x4).f0) ((rd_T64 x0 x4).f1)).bind fun bt222 => (if x4 < (x3.length : Int) then (laws_toStepS.l0 k x0 (x3.set (x4 : Int).toNat (⟨bt222.1, bt222.2⟩ : S68)) (wrap64 (x4 + 1))) else (none))) else (none)) else (some x3)
def laws_toStepS.f (k : Nat) (l0 : List (S64)) : Option ((List (S68))) := if 0 ≤ (l0.length : Int) then (if ((l0.length : Int) : Int).toNat ≤ 8796093022208 then (laws_toStepS.l0 k l0 (List.replicate ((l0.length : Int) : Int).toNat z68) 0) else (none)) else (none)
set_option maxHeartbeats 8000000 in
set_option maxRecDepth 100000 in
theorem laws_toStepS.calls (k : Nat) (A0 : Option Addr) (c0 : Nat) (l0 : List (S64)) (r : List (S68)) (w : World) (hr0 : Kd.C k64 w A0 l0.length l0) (hc0 : l0.length ≤ c0) (h : laws_toStepS.f k l0 = some r) :
  Calls Try.prog 16 #[.slice A0 l0.length c0] w fun e w' => ∃ v0_ : Value, e = .returned (v0_) ∧ Kd.S k68 68 w' w.heap.size (fun _ => True) v0_ r ∧ Below w.heap.size w w' := by
 have hu64 := Try.underlying64
 have hu68 := Try.underlying68
 have HR0 := Aside0.mk hr0
 have HC0 := Aside0.mk hc0
 clear hr0 hc0
 have HB := Aside0.mk (Below.refl w.heap.size w)
 have H : (if 0 ≤ (l0.length : Int) then (if ((l0.length : Int) : Int).toNat ≤ 8796093022208 then (laws_toStepS.l0 k l0 (List.replicate ((l0.length : Int) : Int).toNat z68) 0) else (none)) else (none)) = some r := h
 clear h
 by_cases c2 : 0 ≤ (l0.length : Int)
 ·rw [if_pos c2] at H
  have c2b0 := eq_true c2
  have c2b1 : decide (0 ≤ (l0.length : Int)) = true := decide_eq_true c2
  clear c2
  by_cases c3 : ((l0.length : Int) : Int).toNat ≤ 8796093022208
  ·rw [if_pos c3] at H
   have c3b0 := eq_true c3
   have c3b1 : decide (((l0.length : Int) : Int).toNat ≤ 8796093022208) = true := decide_eq_true c3
   clear c3
   obtain ⟨y218, hy218⟩ : ∃ y_ : List (S68), y_ = (List.replicate ((l0.length : Int) : Int).toNat z68) := ⟨_, rfl⟩
   replace H : (laws_toStepS.l0 k l0 y218 0) = some r := by first | (rw [hy218]; with_reducible exact H) | (have H2_ := (Option.bind_some _ _).symm.trans H; rw [hy218]; with_reducible exact H2_) | (have H2_ := (Option.bind_some _ _).symm.trans H; with_reducible exact H2_) | with_reducible exact H | (rw [hy218]; exact H) | exact H
   have Ny218 := Aside0.mk hy218
   clear hy218
   have H' := Aside0.mk H
   clear H
   go_enter Try.func16, Try.ntmps16
   go_wp2_with (first | ((with_reducible refine gate_dst (N := 7) rfl ?_); refine Kd.S_make k68 _ 68 rfl (N := 7) rfl 32 _ _ rfl (l0.length : Int) rfl rfl Try.underlying32 (.agg #[(.bool false), (.slice none 0 0)]) 32 info68 rfl (by decide) (by omega) z68 (ok := fun _ => True) (okp := fun _ => True) (k68_mkM _ _ _ z68 (Kd.R_nil _ _ _ _ _)) (fun _ hk => hk) trivial (of_decide_eq_true (by first | (with_reducible assumption) | assumption)) (Nat.le_trans (Nat.mul_le_mul_right _ (of_decide_eq_true (by first | (with_reducible assumption) | assumption) : (l0.length : Int).toNat ≤ 8796093022208)) (by omega)) (Below.refl _ _) (Nat.le_refl _) ?_; intro v219 w4 ho5 hb hg_ hnew_; clear hg_ hnew_; (first | rw [← Ny218.out] at ho5 | (simp only [Int.reduceToNat] at ho5; rw [← Ny218.out] at ho5)); have n0_ := Aside0.mk (Kd.S_lower ho5 (below_size (by repeat (first | (with_reducible first | exact HB.out | apply below_alloc | apply pw_below_drewN | apply below_drew1) | exact HB.out)))); have n1_ := Aside0.mk (below_step (by repeat (first | (with_reducible first | exact HB.out | apply below_alloc | apply pw_below_drewN | apply below_drew1) | exact HB.out)) hb); clear HB; have HO220 := n0_; have HB := n1_; clear n0_ n1_; clear hb ho5))
   go_loopg [4] k (fun kq v4 w' => ∃ (x3_1 : List (S68)) (x4_1 : Int), v4 = .int .i64 x4_1 ∧ Aside0 (laws_toStepS.l0 kq l0 x3_1 x4_1 = some r) ∧ Aside0 (kq ≤ k) ∧ Aside0 (Kd.S k68 68 w' w.heap.size (fun _ => True) v219 x3_1) ∧ Aside0 (Below w.heap.size w w'))
   case atStart => exact ⟨(y218), (0), (by first | rfl | (simp; done) | (simp [*]; done)), H', ⟨Nat.le_refl _⟩, ⟨by (with_reducible repeat (first | apply Kd.S_alloc | apply Kd.S_drewN | apply Kd.S_drew)); exact HO220.out⟩, ⟨by repeat (first | (with_reducible first | exact HB.out | apply below_alloc | apply pw_below_drewN | apply below_drew1) | exact HB.out)⟩⟩
   case round =>
    clear H'
    try clear c1
    try clear c2
    try clear c2b0
    try clear c2b1
    try clear p2
    try clear c3
    try clear c3b0
    try clear c3b1
    obtain ⟨x3_1, x4_1, rfl, HA, HK1, HO_3, HB⟩ := hrel
    cases gk with
    | zero => exact absurd HA.out (by simp [laws_toStepS.l0])
    | succ k1 =>
     have H := HA.out
     clear HA
     simp only [laws_toStepS.l0] at H
     by_cases c6 : x4_1 < (l0.length : Int)
     ·rw [if_pos c6] at H
      have c6b0 : decide (x4_1 < (l0.length : Int)) = true := decide_eq_true c6
      clear c6
      by_cases c7 : 0 ≤ x4_1
      ·rw [if_pos c7] at H
       have c7b0 : decide (0 ≤ x4_1) = true := decide_eq_true c7
       clear c7
       replace H := Option.bind_eq_some_iff.mp H
       obtain ⟨⟨t222, t223⟩, A80, H⟩ := H
       replace H : (if x4_1 < (x3_1.length : Int) then (laws_toStepS.l0 k1 l0 (x3_1.set (x4_1 : Int).toNat (⟨t222, t223⟩ : S68)) (wrap64 (x4_1 + 1))) else (none)) = some r := H
       have A8 := Aside0.mk A80
       clear A80
       by_cases c9 : x4_1 < (x3_1.length : Int)
       ·rw [if_pos c9] at H
        have c9b0 : decide (x4_1 < (x3_1.length : Int)) = true := decide_eq_true c9
        clear c9
        obtain ⟨y226, hy226⟩ : ∃ y_ : List (S68), y_ = (x3_1.set (x4_1 : Int).toNat (⟨t222, t223⟩ : S68)) := ⟨_, rfl⟩
        replace H : (laws_toStepS.l0 k1 l0 y226 (wrap64 (x4_1 + 1))) = some r := by first | (rw [hy226]; with_reducible exact H) | (have H2_ := (Option.bind_some _ _).symm.trans H; rw [hy226]; with_reducible exact H2_) | (have H2_ := (Option.bind_some _ _).symm.trans H; with_reducible exact H2_) | with_reducible exact H | (rw [hy226]; exact H) | exact H
        have Ny226 := Aside0.mk hy226
        clear hy226
        have H' := Aside0.mk H
        clear H
        have p221 : 0 ≤ (x4_1 : Int) := of_decide_eq_true (by first | (with_reducible assumption) | assumption)
        have q221 : x4_1 < (l0.length : Int) := of_decide_eq_true (by first | (with_reducible assumption) | assumption)
        obtain ⟨ad221, A221_1, c221_1, e221, hx221_0, hx221_1, hl221_1, hi221_1⟩ := at_T64 HR0.out x4_1 p221 q221
        cases e221
        replace hx221_0 := (HB.out.cell (World.block_lt_of_cell? w _ hx221_0)).trans hx221_0
        replace hx221_1 := (HB.out.cell (World.block_lt_of_cell? w _ hx221_1)).trans hx221_1
        have HR221_1 := Aside0.mk hi221_1
        have HC221_1 := Aside0.mk hl221_1
        clear hi221_1 hl221_1
        replace p221 := eq_true p221
        replace q221 := eq_true q221
        go_wp2_with (first | ((with_reducible refine gate_callee (f := 53) rfl ?_); refine goesL_ (some 20) rfl rfl Try.func53 (by kernel_rfl) rfl #[.agg #[.bool ((rd_T64 l0 x4_1).f0), .slice A221_1 ((rd_T64 l0 x4_1).f1).length c221_1]] rfl (by (try simp only [List.map_toArray, List.map_cons, List.map_nil]); first | done | rfl | (simp only [List.length_drop, List.length_take]; rfl)) ?_; (with_reducible refine (laws_toStep.calls k1 ((rd_T64 l0 x4_1).f0) _ _ ((rd_T64 l0 x4_1).f1) t222 t223 _ ?side1 ?side2 A8.out).mono ?_); (case side1 => repeat (first | exact (Kd.C_below HR221_1.out HB.out) | (with_reducible refine Kd.C_alloc ?_ _) | (with_reducible refine Kd.C_drewN ?_ _) | (with_reducible refine Kd.C_drew ?_))); (case side2 => exact HC221_1.out); rintro e w11 ⟨v224, rfl, ho0, hb⟩; refine ⟨_, rfl, ?_⟩; have n0_ := Aside0.mk (Kd.S_elder' (by (with_reducible repeat (first | apply Kd.S_alloc | apply Kd.S_drewN | apply Kd.S_drew)); exact HO_3.out) (Kd.R_base ho0) hb); have n1_ := Aside0.mk (Kd.R_lower ho0 (below_size (by repeat (first | (with_reducible first | exact HB.out | apply below_alloc | apply pw_below_drewN | apply below_drew1) | exact HB.out)))); have n2_ := Aside0.mk (below_step (by repeat (first | (with_reducible first | exact HB.out | apply below_alloc | apply pw_below_drewN | apply below_drew1) | exact HB.out)) hb); clear HO_3; clear HB; have HO_3 := n0_; have HO225 := n1_; have HB := n2_; clear n0_ n1_ n2_; (try clear hb); (try clear hb2); (try clear hk); (try clear hi); (try clear ho0); have p10 : 0 ≤ (x4_1 : Int) := of_decide_eq_true (by first | (with_reducible assumption) | assumption); have q10 : (x4_1 : Int) < ((x3_1.length : Int) : Int) := of_decide_eq_true (by first | (with_reducible assumption) | assumption); obtain ⟨go10, co10, eo10, gb10, gl10, cl10, HG10⟩ := Kd.S_form HO_3.out (by omega); (first | cases eo10 | (injection eo10 with ea_ en_ ec_; (first | subst ea_ | (injection ea_ with ea_; subst ea_)); subst ec_; clear en_)); have GB10 := Aside0.mk gb10; have GG10 := Aside0.mk HG10; clear gb10 gl10 HG10; obtain ⟨_, ce10, hcl10, hM10, hcc10, hfr10, _, _⟩ := Kd.S_elem HO_3.out z68 (x4_1 : Int) p10 q10; obtain ⟨ve10_1, rfl, ge10_1⟩ := k68_openM hM10; have hx10_0 : w11.cell? ⟨go10, (x4_1 : Int).toNat * 2, none⟩ = some (.bool ((rd_T68 x3_1 x4_1).f0)) := hcc10 0 _ rfl; have hx10_1 : w11.cell? ⟨go10, (x4_1 : Int).toNat * 2 + 1, none⟩ = some (ve10_1) := hcc10 1 _ rfl; have hf10_0 : w11.frozen? ⟨go10, (x4_1 : Int).toNat * 2, none⟩ = false := hfr10 0; have hf10_1 : w11.frozen? ⟨go10, (x4_1 : Int).toNat * 2 + 1, none⟩ = false := hfr10 1; clear hcl10 hcc10 hfr10; (try clear hM10); replace p10 := eq_true p10; replace q10 := eq_true q10; have n_ := Aside0.mk (Kd.S_mono (ok' := (fun k_ => some k_ ≠ (v224 : Value).ownBlock)) HO_3.out (fun k_ hk => hk.2)); clear HO_3; have HO_3 := n_; clear n_; have HX12 := Aside0.mk (show Kd.S k68 68 w11 w.heap.size (fun k_ => ((fun _ => True)) k_ ∧ ¬ ((fun k_ => some k_ = (v224 : Value).ownBlock)) k_) (.slice (some ⟨go10, 0, none⟩) x3_1.length co10) x3_1 from (by (with_reducible repeat (first | apply Kd.S_alloc | apply Kd.S_drewN | apply Kd.S_drew)); exact Kd.S_mono HO_3.out (fun k_ hk => ⟨trivial, fun e_ => hk e_⟩))); obtain ⟨oki12, ce12, hcl12, hM12, hcc12, hfr12, hoki12, hH12⟩ := Kd.S_elem HX12.out z68 (x4_1 : Int) (of_decide_eq_true (by first | (with_reducible assumption) | assumption)) (by have h_ : (x4_1 : Int) < ((x3_1.length : Int) : Int) := of_decide_eq_true (by first | (with_reducible assumption) | assumption); first | exact h_ | (have e_ := (Kd.S_reads' HO_3.out).1; omega) | simpa using h_); obtain ⟨ve12_1, rfl, ge12_1⟩ := k68_openM hM12; have HP12 := Kd.S_seg hH12 (of_decide_eq_true (by first | (with_reducible assumption) | assumption)) (by have h_ : (x4_1 : Int) < ((x3_1.length : Int) : Int) := of_decide_eq_true (by first | (with_reducible assumption) | assumption); first | exact h_ | (have e_ := (Kd.S_reads' HO_3.out).1; omega) | simpa using h_) (seg := [.bool t222, v224]) (j := 0) (show 2 ≤ 2 from by decide) (x' := (⟨t222, t223⟩ : S68)) (k68_mkM _ _ _ (⟨t222, t223⟩ : S68) (Kd.R_mono (Kd.R_tight rfl (Kd.R_mono (ok' := fun k_ => ((fun _ => True)) k_ ∧ k_ ≠ go10) (Kd.R_apart' (HO225.out) (Kd.S_typed HO_3.out) (by decide)) (fun k_ hk => ⟨trivial, fun e_ => (hk.2) (by rw [e_]; rfl)⟩))) (fun _ h_ => Or.inr (h_)))) (fun _ hk => hk) (fun k_ hk_ => ((Kd.R_mono (ok' := fun k_ => ((fun _ => True)) k_ ∧ k_ ≠ go10) (Kd.R_apart' (HO225.out) (Kd.S_typed HO_3.out) (by decide)) (fun k_ hk => ⟨trivial, fun e_ => (hk.2) (by rw [e_]; rfl)⟩))).1 k_ hk_.symm); have hx12_0 := hcc12 0 _ rfl; (try simp only [show (k68).sz = 2 from rfl, Nat.mul_one, Nat.add_zero] at hx12_0); have hf12_0 := hfr12 0; (try simp only [show (k68).sz = 2 from rfl, Nat.mul_one, Nat.add_zero] at hf12_0); have hx12_1 := hcc12 1 _ rfl; (try simp only [show (k68).sz = 2 from rfl, Nat.mul_one, Nat.add_zero] at hx12_1); have hf12_1 := hfr12 1; (try simp only [show (k68).sz = 2 from rfl, Nat.mul_one, Nat.add_zero] at hf12_1); clear hcl12 hcc12 hfr12 hoki12 hH12; (try clear hM12)) | ((with_reducible refine gate_store (t := 68) (p := 21) rfl ?_); refine store_event (t := 68) (p := 21) (v := ?vo_w13) (w1 := ((w11.setCell ⟨go10, (x4_1 : Int).toNat * 2, none⟩ (.bool t222)).setCell ⟨go10, (x4_1 : Int).toNat * 2 + 1, none⟩ (v224))) ?hg ?ho ?hn ?hr ?_; (case ho => rfl); (case hg => rfl); (case hn => rfl); (case hr => first | (go_simp; done) | (go_simp; rfl) | (obtain ⟨_, _, ev_⟩ := Kd.R_slice HO225.out; subst ev_; first | (go_simp; done) | (go_simp; rfl))); intro w13 hw; have hg : w11.grownBy w13 (some go10) := (by rw [hw]; exact HP12.2); have hp_ : Kd.S k68 68 w13 w.heap.size (fun _ => True) (.slice (some ⟨go10, 0, none⟩) x3_1.length co10) y226 := (by rw [hw, Ny226.out]; exact HP12.1); clear HP12; have n0_ := Aside0.mk (hp_); have n1_ := Aside0.mk ((by rw [hw]; exact below_set (below_set (HB.out) GB10.out) GB10.out : Below w.heap.size w w13)); clear HO_3; clear HB; clear HO225; have HO_3 := n0_; have HB := n1_; clear n0_ n1_; clear hg hw hp_))
        go_roundg k1
        case measure => have := HK1.out; omega
        case rel => exact ⟨(y226), (wrap64 (x4_1 + 1)), (by first | rfl | (simp; done) | (simp [*]; done)), H', ⟨by have := HK1.out; omega⟩, ⟨by (with_reducible repeat (first | apply Kd.S_alloc | apply Kd.S_drewN | apply Kd.S_drew)); exact HO_3.out⟩, ⟨by repeat (first | (with_reducible first | exact HB.out | apply below_alloc | apply pw_below_drewN | apply below_drew1) | exact HB.out)⟩⟩
       ·rw [if_neg c9] at H
        exact absurd H (by simp)
      ·rw [if_neg c7] at H
       exact absurd H (by simp)
     ·rw [if_neg c6] at H
      have c6b0 : decide (x4_1 < (l0.length : Int)) = false := decide_eq_false c6
      clear c6
      obtain rfl := Option.some.inj H
      go_wp2
      go_ret
      exact ⟨_, by first | rfl | (simp [errW_none, errW_some] <;> rfl) | (simp [*, errW_none, errW_some] <;> rfl), by (with_reducible repeat (first | apply Kd.S_alloc | apply Kd.S_drewN | apply Kd.S_drew)); exact HO_3.out, by repeat (first | (with_reducible first | exact HB.out | apply below_alloc | apply pw_below_drewN | apply below_drew1) | exact HB.out)⟩
  ·rw [if_neg c3] at H
   exact absurd H (by simp)
 ·rw [if_neg c2] at H
  exact absurd H (by simp)
end Go.Proofs.Ytelfahcjeldliaa.PFnExactCheckProof
end
section
namespace Go.Proofs.Ytelfahcjeldliaa.PFnExactCheckProof
open Go.RowKit Go.Proofs.YtelfahcjeldliaaW.PrintWords Go.Proofs.YtelfahcjeldliaaW.PrintLast Go.Proofs.YtelfahcjeldliaaW.PrintMore
attribute [local go_sem] max2_int min2_int max_two min_two max_three min_three max_four min_four   -- for this text's walks alone
set_option linter.unusedVariables false
set_option linter.unusedSimpArgs false
def impl_within.f (a0 : Int) (a1 : Int) (a2 : Int) : Option (Bool) := if a0 ≥ a1 then (some (decide (a0 ≤ a2))) else (some false)
set_option maxHeartbeats 8000000 in
set_option maxRecDepth 100000 in
theorem impl_within.calls (a0 : Int) (a1 : Int) (a2 : Int) (r : Bool) (w : World) (h : impl_within.f a0 a1 a2 = some r) :
  Calls Try.prog 83 #[.int .i64 a0, .int .i64 a1, .int .i64 a2] w fun e w' => e = .returned (.bool r) ∧ Drawn0 w w' := by
 have H : (if a0 ≥ a1 then (some (decide (a0 ≤ a2))) else (some false)) = some r := h
 clear h
 by_cases c4 : a0 ≥ a1
 ·rw [if_pos c4] at H
  have c4b0 : decide (a1 ≤ a0) = true := decide_eq_true c4
  clear c4
  obtain rfl := Option.some.inj H
  go_enter Try.func83, Try.ntmps83
  go_wp2
  go_ret
  exact ⟨by first | rfl | (simp; done) | (simp [*]; done), by repeat (first | exact Drawn0.refl _ | apply Drawn0.step)⟩
 ·rw [if_neg c4] at H
  have c4b0 : decide (a1 ≤ a0) = false := decide_eq_false c4
  clear c4
  obtain rfl := Option.some.inj H
  go_enter Try.func83, Try.ntmps83
  go_wp2
  go_ret
  exact ⟨by first | rfl | (simp; done) | (simp [*]; done), by repeat (first | exact Drawn0.refl _ | apply Drawn0.step)⟩
def impl_isLiteral.f (a0 : Int) (a1 : Int) : Option (Bool) := if a0 = 0 then (some false) else ((impl_within.f a0 (wrap64 (-a1)) a1).bind fun t227 => (some t227))
set_option maxHeartbeats 8000000 in
set_option maxRecDepth 100000 in
theorem impl_isLiteral.calls (a0 : Int) (a1 : Int) (r : Bool) (w : World) (h : impl_isLiteral.f a0 a1 = some r) :
  Calls Try.prog 68 #[.int .i64 a0, .int .i64 a1] w fun e w' => e = .returned (.bool r) ∧ Drawn0 w w' := by
 have H : (if a0 = 0 then (some false) else ((impl_within.f a0 (wrap64 (-a1)) a1).bind fun t227 => (some t227))) = some r := h
 clear h
 by_cases c3 : a0 = 0
 ·rw [if_pos c3] at H
  have c3b0 : (a0 == 0) = true := beq_iff_eq.mpr c3
  have c3b1 : (a0 != 0) = false := bne_eq_false_iff_eq.mpr c3
  clear c3
  obtain rfl := Option.some.inj H
  go_enter Try.func68, Try.ntmps68
  go_wp2
  go_ret
  exact ⟨by first | rfl | (simp; done) | (simp [*]; done), by repeat (first | exact Drawn0.refl _ | apply Drawn0.step)⟩
 ·rw [if_neg c3] at H
  have c3b0 : (a0 == 0) = false := beq_eq_false_iff_ne.mpr c3
  have c3b1 : (a0 != 0) = true := bne_iff_ne.mpr c3
  replace H := Option.bind_eq_some_iff.mp H
  obtain ⟨t227, A40, H⟩ := H
  replace H : (some t227) = some r := H
  have A4 := Aside0.mk A40
  clear A40
  obtain rfl := Option.some.inj H
  go_enter Try.func68, Try.ntmps68
  go_wp2_with (first | (go_at_call 83; (with_reducible refine (impl_within.calls a0 (wrap64 (-a1)) a1 t227 _ A4.out).mono ?_); rintro e w' ⟨rfl, ⟨nd, rfl⟩⟩))
  go_ret
  exact ⟨by first | rfl | (simp; done) | (simp [*]; done), by repeat (first | exact Drawn0.refl _ | apply Drawn0.step)⟩
def anyI (p : Nat → Bool) : Nat → Bool
 | 0 => false
 | n + 1 => anyI p n || p n
theorem anyI_none {p : Nat → Bool} : ∀ {n : Nat}, (∀ j, j < n → p j = false) → anyI p n = false
 | 0, _ => rfl
 | n + 1, h => by rw [anyI, anyI_none (fun j hj => h j (by omega)), h n (by omega)]; rfl
theorem anyI_some {p : Nat → Bool} : ∀ {n k : Nat}, k < n → p k = true → anyI p n = true
 | 0, _, h, _ => by omega
 | n + 1, k, h, hp => by
  rw [anyI]
  by_cases e : k = n
  ·subst e; rw [hp]; simp
  ·rw [anyI_some (show k < n by omega) hp]; simp
theorem anyI_list {α : Type} (q : α → Bool) (d : α) (p : Nat → Bool) : ∀ (l : List α), (∀ i, i < l.length → p i = q (l.getD i d)) → anyI p l.length = l.any q := by
 intro l h
 cases hq : l.any q with
 | true =>
  obtain ⟨x, hx, hqx⟩ := List.any_eq_true.1 hq
  obtain ⟨i, hi, rfl⟩ := List.mem_iff_getElem.1 hx
  exact anyI_some hi (by rw [h i hi]; simpa [List.getD, hi] using hqx)
 | false =>
  refine anyI_none (fun j hj => ?_)
  rw [h j hj]
  have := List.any_eq_false.1 hq (l.getD j d) (by simp [List.getD, hj])
  simpa using this
set_option maxHeartbeats 4000000 in
theorem idxInt (p : Nat → Bool) (V : Nat → Value) (g : Nat) (lb : Array Value) (eg : ∀ args w, (callFunc g args).run Try.prog w = .ok (.enter g args) w) (A : Option Addr) (n c : Nat) (w : World) (hn : n ≤ 9223372036854775807)
  (hc : 0 < n → ∃ ad, A = some ad ∧ ∀ i, i < n → w.cell? (ad.add i) = some (V i))
  (hp : ∀ i, i < n → ∀ W, Below w.heap.size w W → Calls Try.prog g (#[V i] ++ lb) W fun e W' => e = .returned (.bool (p i)) ∧ Below W.heap.size W W') :
  Calls Try.prog 126 #[.slice A n c, .func (.func g) #[] lb] w fun e w' => (∃ r : Int, e = .returned (.int .i64 r) ∧ decide (0 ≤ r) = anyI p n) ∧ Below w.heap.size w w' := by
 have HP := Aside0.mk hp
 have HC := Aside0.mk hc
 clear hp hc
 go_enter Try.func126, Try.ntmps126
 go_wp2
 go_loopg [5, 8] n (fun gg _ s8 wr => ∃ kk : Nat, kk ≤ n ∧ n - kk ≤ gg ∧ s8 = .int .i64 kk ∧ Aside0 (Below w.heap.size w wr) ∧ Aside0 (∀ j, j < kk → p j = false))
 case atStart => exact ⟨0, Nat.zero_le _, by omega, rfl, ⟨Below.refl _ _⟩, ⟨fun j hj => absurd hj (Nat.not_lt_zero _)⟩⟩
 case round =>
  obtain ⟨kk, hkk, hg, rfl, HB, HN⟩ := hrel
  by_cases hlt : kk < n
  ·have hltz : (kk : Int) < (n : Int) := by omega
   obtain ⟨ad, ea, hcell0⟩ := HC.out (by omega)
   have hcell := (HB.out.cell (World.block_lt_of_cell? w _ (hcell0 kk hlt))).trans (hcell0 kk hlt)
   clear hcell0
   cases ea
   have hcall := HP.out kk hlt _ HB.out
   cases hq : p kk with
   | true =>
    rw [hq] at hcall
    have HQ := Aside0.mk hq
    clear hq
    go_wp2_with (go_at_fn g; refine hcall.mono ?_; rintro e w' ⟨rfl, hb⟩)
    go_ret
    refine ⟨⟨kk, rfl, ?_⟩, HB.out.trans (hb.mono HB.out.size)⟩
    rw [anyI_some hlt HQ.out, decide_eq_true (by omega)]
   | false =>
    rw [hq] at hcall
    have HQ := Aside0.mk hq
    clear hq
    go_wp2_with (go_at_fn g; refine hcall.mono ?_; rintro e w' ⟨rfl, hb⟩)
    go_roundg (n - (kk + 1))
    case measure => omega
    case rel =>
     refine ⟨kk + 1, by omega, by omega, by go_num, ⟨HB.out.trans (hb.mono HB.out.size)⟩, ⟨fun j hj => ?_⟩⟩
     by_cases e : j = kk
     ·subst e
      exact HQ.out
     ·exact HN.out j (by omega)
  ·have hltz : ¬ (kk : Int) < (n : Int) := by omega
   have : kk = n := by omega
   subst this
   go_wp2
   go_ret
   refine ⟨⟨-1, rfl, ?_⟩, HB.out⟩
   rw [anyI_none HN.out]
   rfl
set_option maxHeartbeats 4000000 in
theorem anyInt (p : Nat → Bool) (V : Nat → Value) (g : Nat) (lb : Array Value) (eg : ∀ args w, (callFunc g args).run Try.prog w = .ok (.enter g args) w) (A : Option Addr) (n c : Nat) (w : World) (hn : n ≤ 9223372036854775807)
  (hc : 0 < n → ∃ ad, A = some ad ∧ ∀ i, i < n → w.cell? (ad.add i) = some (V i))
  (hp : ∀ i, i < n → ∀ W, Below w.heap.size w W → Calls Try.prog g (#[V i] ++ lb) W fun e W' => e = .returned (.bool (p i)) ∧ Below W.heap.size W W') :
  Calls Try.prog 103 #[.slice A n c, .func (.func g) #[] lb] w fun e w' => e = .returned (.bool (anyI p n)) ∧ Below w.heap.size w w' := by
 have hcall := idxInt p V g lb eg A n c w hn hc hp
 clear hp hc
 go_enter Try.func103, Try.ntmps103
 go_wp2_with (go_at_call 126; refine hcall.mono ?_; rintro e w' ⟨⟨r, rfl, hr⟩, hb⟩)
 go_ret
 exact ⟨by first | (rw [← hr]; rfl) | (rw [← hr]; simp), hb⟩
theorem anyIntL (q : Int → Bool) (g : Nat) (lb : Array Value) (eg : ∀ args w, (callFunc g args).run Try.prog w = .ok (.enter g args) w) (A : Option Addr) (l : List Int) (c : Nat) (w : World) (hr : Kd.C (Kd.int .i64) w A l.length l)
  (hp : ∀ x W, Below w.heap.size w W → Calls Try.prog g (#[.int .i64 x] ++ lb) W fun e W' => e = .returned (.bool (q x)) ∧ Below W.heap.size W W') :
  Calls Try.prog 103 #[.slice A l.length c, .func (.func g) #[] lb] w fun e w' => e = .returned (.bool (l.any q)) ∧ Below w.heap.size w w' := by
 have h := anyInt (fun i => q (l.getD i 0)) (fun i => .int .i64 (l.getD i 0)) g lb eg A l.length c w hr.2.1
  (fun hn => by
   obtain ⟨ad, ea, _⟩ := hr.2.2 hn
   refine ⟨ad, ea, fun i hi => ?_⟩
   obtain ⟨ad', ea', hx⟩ := Kd.at_int hr (i : Int) (by omega) (by omega)
   cases ea
   cases ea'
   exact hx)
  (fun i hi W hb => hp _ W hb)
 rwa [anyI_list q 0 _ l (fun i _ => rfl)] at h
def litB (x vars : Int) : Bool := decide (x ≠ 0) && (decide (wrap64 (-vars) ≤ x) && decide (x ≤ vars))
def clauseB (c : List Int) (vars : Int) : Bool := decide (c.length ≤ 12) && !(c.any fun x => !(litB x vars))
theorem lit_is (x vars : Int) : impl_isLiteral.f x vars = some (litB x vars) := by
 unfold impl_isLiteral.f impl_within.f litB
 by_cases h : x = 0
 ·simp [h]
 ·by_cases h2 : wrap64 (-vars) ≤ x <;> simp [h, h2]
set_option maxHeartbeats 4000000 in
set_option maxRecDepth 100000 in
theorem isClause_fn (x vars : Int) (B : Nat) (W : World) (hB : W.cell? ⟨B, 0, none⟩ = some (.int .i64 vars)) :
  Calls Try.prog 104 #[.int .i64 x, .pointer (some ⟨B, 0, none⟩)] W fun e W' => e = .returned (.bool (!(litB x vars))) ∧ Below W.heap.size W W' := by
 have hcall := fun V => impl_isLiteral.calls x vars _ V (lit_is x vars)
 generalize litB x vars = b at hcall ⊢
 go_enter Try.func104, Try.ntmps104
 go_wp2_with (go_at_call 68; refine (hcall _).mono ?_; rintro e w' ⟨rfl, hd⟩)
 go_ret
 exact ⟨rfl, hd.below⟩
def impl_isClause.f (l0 : List Int) (a1 : Int) : Option Bool := some (clauseB l0 a1)
set_option maxHeartbeats 4000000 in
set_option maxRecDepth 100000 in
theorem impl_isClause.calls (A0 : Option Addr) (c0 : Nat) (l0 : List Int) (a1 : Int) (r : Bool) (w : World) (hr0 : Kd.C (Kd.int .i64) w A0 l0.length l0) (hc0 : l0.length ≤ c0) (h : impl_isClause.f l0 a1 = some r) :
  Calls Try.prog 61 #[.slice A0 l0.length c0, .int .i64 a1] w fun e w' => e = .returned (.bool r) ∧ Below w.heap.size w w' := by
 obtain rfl : clauseB l0 a1 = r := Option.some.inj h
 clear h
 unfold clauseB
 have hbox : (w.alloc (.cells #[.int .i64 a1] 3)).cell? ⟨w.heap.size, 0, none⟩ = some (.int .i64 a1) := by simp
 have hB0 : Below w.heap.size w (w.alloc (.cells #[.int .i64 a1] 3)) := (Below.refl _ _).alloc (Nat.le_refl _) _
 have hcon := anyIntL (fun x => !(litB x a1)) 104 #[.pointer (some ⟨w.heap.size, 0, none⟩)] (enters_of Try.func104 (by kernel_rfl) rfl) A0 l0 c0 (w.alloc (.cells #[.int .i64 a1] 3)) (Kd.C_below hr0 hB0)
  (fun x W hb => isClause_fn _ _ _ _ ((hb.cell (p := ⟨w.heap.size, 0, none⟩) (by simp)).trans hbox))
 generalize (l0.any fun x => !(litB x a1)) = b at hcon ⊢
 clear hbox hr0
 by_cases hle : l0.length ≤ 12
 ·rw [decide_eq_true hle, Bool.true_and]
  have hle2 : decide (l0.length ≤ 12) = true := decide_eq_true hle
  go_enter Try.func61, Try.ntmps61
  go_wp2_with (go_at_call 103; refine hcon.mono ?_; rintro e w' ⟨rfl, hb⟩)
  go_ret
  exact ⟨rfl, hB0.trans (hb.mono hB0.size)⟩
 ·rw [decide_eq_false hle, Bool.false_and]
  have hle2 : decide (l0.length ≤ 12) = false := decide_eq_false hle
  have hle3 : 12 < l0.length := by omega
  clear hcon
  go_enter Try.func61, Try.ntmps61
  go_wp2
  go_ret
  exact ⟨rfl, hB0⟩
set_option maxHeartbeats 4000000 in
theorem idxInts (p : Nat → Bool) (V : Nat → Value) (g : Nat) (lb : Array Value) (eg : ∀ args w, (callFunc g args).run Try.prog w = .ok (.enter g args) w) (A : Option Addr) (n c : Nat) (w : World) (hn : n ≤ 9223372036854775807)
  (hc : 0 < n → ∃ ad, A = some ad ∧ ∀ i, i < n → w.cell? (ad.add i) = some (V i))
  (hp : ∀ i, i < n → ∀ W, Below w.heap.size w W → Calls Try.prog g (#[V i] ++ lb) W fun e W' => e = .returned (.bool (p i)) ∧ Below W.heap.size W W') :
  Calls Try.prog 124 #[.slice A n c, .func (.func g) #[] lb] w fun e w' => (∃ r : Int, e = .returned (.int .i64 r) ∧ decide (0 ≤ r) = anyI p n) ∧ Below w.heap.size w w' := by
 have HP := Aside0.mk hp
 have HC := Aside0.mk hc
 clear hp hc
 go_enter Try.func124, Try.ntmps124
 go_wp2
 go_loopg [5, 8] n (fun gg _ s8 wr => ∃ kk : Nat, kk ≤ n ∧ n - kk ≤ gg ∧ s8 = .int .i64 kk ∧ Aside0 (Below w.heap.size w wr) ∧ Aside0 (∀ j, j < kk → p j = false))
 case atStart => exact ⟨0, Nat.zero_le _, by omega, rfl, ⟨Below.refl _ _⟩, ⟨fun j hj => absurd hj (Nat.not_lt_zero _)⟩⟩
 case round =>
  obtain ⟨kk, hkk, hg, rfl, HB, HN⟩ := hrel
  by_cases hlt : kk < n
  ·have hltz : (kk : Int) < (n : Int) := by omega
   obtain ⟨ad, ea, hcell0⟩ := HC.out (by omega)
   have hcell := (HB.out.cell (World.block_lt_of_cell? w _ (hcell0 kk hlt))).trans (hcell0 kk hlt)
   clear hcell0
   cases ea
   have hcall := HP.out kk hlt _ HB.out
   cases hq : p kk with
   | true =>
    rw [hq] at hcall
    have HQ := Aside0.mk hq
    clear hq
    go_wp2_with (go_at_fn g; refine hcall.mono ?_; rintro e w' ⟨rfl, hb⟩)
    go_ret
    refine ⟨⟨kk, rfl, ?_⟩, HB.out.trans (hb.mono HB.out.size)⟩
    rw [anyI_some hlt HQ.out, decide_eq_true (by omega)]
   | false =>
    rw [hq] at hcall
    have HQ := Aside0.mk hq
    clear hq
    go_wp2_with (go_at_fn g; refine hcall.mono ?_; rintro e w' ⟨rfl, hb⟩)
    go_roundg (n - (kk + 1))
    case measure => omega
    case rel =>
     refine ⟨kk + 1, by omega, by omega, by go_num, ⟨HB.out.trans (hb.mono HB.out.size)⟩, ⟨fun j hj => ?_⟩⟩
     by_cases e : j = kk
     ·subst e
      exact HQ.out
     ·exact HN.out j (by omega)
  ·have hltz : ¬ (kk : Int) < (n : Int) := by omega
   have : kk = n := by omega
   subst this
   go_wp2
   go_ret
   refine ⟨⟨-1, rfl, ?_⟩, HB.out⟩
   rw [anyI_none HN.out]
   rfl
set_option maxHeartbeats 4000000 in
theorem anyInts (p : Nat → Bool) (V : Nat → Value) (g : Nat) (lb : Array Value) (eg : ∀ args w, (callFunc g args).run Try.prog w = .ok (.enter g args) w) (A : Option Addr) (n c : Nat) (w : World) (hn : n ≤ 9223372036854775807)
  (hc : 0 < n → ∃ ad, A = some ad ∧ ∀ i, i < n → w.cell? (ad.add i) = some (V i))
  (hp : ∀ i, i < n → ∀ W, Below w.heap.size w W → Calls Try.prog g (#[V i] ++ lb) W fun e W' => e = .returned (.bool (p i)) ∧ Below W.heap.size W W') :
  Calls Try.prog 98 #[.slice A n c, .func (.func g) #[] lb] w fun e w' => e = .returned (.bool (anyI p n)) ∧ Below w.heap.size w w' := by
 have hcall := idxInts p V g lb eg A n c w hn hc hp
 clear hp hc
 go_enter Try.func98, Try.ntmps98
 go_wp2_with (go_at_call 124; refine hcall.mono ?_; rintro e w' ⟨⟨r, rfl, hr⟩, hb⟩)
 go_ret
 exact ⟨by first | (rw [← hr]; rfl) | (rw [← hr]; simp), hb⟩
theorem anyIntsL (q : List Int → Bool) (g : Nat) (lb : Array Value) (eg : ∀ args w, (callFunc g args).run Try.prog w = .ok (.enter g args) w) (A : Option Addr) (l : List (List Int)) (c : Nat) (w : World) (hr : Kd.C (Kd.slice 3 (Kd.int .i64)) w A l.length l)
  (hp : ∀ A0 c0 (x : List Int) W, Below w.heap.size w W → Kd.C (Kd.int .i64) W A0 x.length x → x.length ≤ c0 → Calls Try.prog g (#[.slice A0 x.length c0] ++ lb) W fun e W' => e = .returned (.bool (q x)) ∧ Below W.heap.size W W') :
  Calls Try.prog 98 #[.slice A l.length c, .func (.func g) #[] lb] w fun e w' => e = .returned (.bool (l.any q)) ∧ Below w.heap.size w w' := by
 have hV : ∀ i, i < l.length → ∃ v : Value, (∃ ad, A = some ad ∧ w.cell? (ad.add i) = some v) ∧ ∃ A0 c0, v = .slice A0 (l.getD i []).length c0 ∧ (l.getD i []).length ≤ c0 ∧ Kd.C (Kd.int .i64) w A0 (l.getD i []).length (l.getD i []) := by
  intro i hi
  obtain ⟨ad, A0, c0, ea, hx, hl, hC⟩ := at_L1 hr (i : Int) (by omega) (by omega)
  exact ⟨_, ⟨ad, ea, hx⟩, A0, c0, rfl, hl, hC⟩
 have hinh : Inhabited Value := ⟨.bool false⟩
 obtain ⟨V, hV⟩ := Go.Deep.choose_lt hV
 have h := anyInts (fun i => q (l.getD i [])) V g lb eg A l.length c w hr.2.1
  (fun hn => by
   obtain ⟨ad, ea, _⟩ := hr.2.2 hn
   refine ⟨ad, ea, fun i hi => ?_⟩
   obtain ⟨⟨ad', ea', hx⟩, _⟩ := hV i hi
   cases ea
   cases ea'
   exact hx)
  (fun i hi W hb => by
   obtain ⟨_, A0, c0, ev, hl, hC⟩ := hV i hi
   rw [ev]
   exact hp A0 c0 _ W hb (Kd.C_below hC hb) hl)
 rwa [anyI_list q [] _ l (fun i _ => rfl)] at h
theorem anyIntsL' (q : List Int → Bool) (g : Nat) (lb : Array Value) (eg : ∀ args w, (callFunc g args).run Try.prog w = .ok (.enter g args) w) (A : Option Addr) (l : List (List Int)) (c : Nat) (w : World) (hr : Kd.C (Kd.slice 3 (Kd.int .i64)) w A l.length l)
  (hp : ∀ A0 c0 (x : List Int), x ∈ l → ∀ W, Below w.heap.size w W → Kd.C (Kd.int .i64) W A0 x.length x → x.length ≤ c0 → Calls Try.prog g (#[.slice A0 x.length c0] ++ lb) W fun e W' => e = .returned (.bool (q x)) ∧ Below W.heap.size W W') :
  Calls Try.prog 98 #[.slice A l.length c, .func (.func g) #[] lb] w fun e w' => e = .returned (.bool (l.any q)) ∧ Below w.heap.size w w' := by
 have hV : ∀ i, i < l.length → ∃ v : Value, (∃ ad, A = some ad ∧ w.cell? (ad.add i) = some v) ∧ ∃ A0 c0, v = .slice A0 (l.getD i []).length c0 ∧ (l.getD i []).length ≤ c0 ∧ Kd.C (Kd.int .i64) w A0 (l.getD i []).length (l.getD i []) := by
  intro i hi
  obtain ⟨ad, A0, c0, ea, hx, hl, hC⟩ := at_L1 hr (i : Int) (by omega) (by omega)
  exact ⟨_, ⟨ad, ea, hx⟩, A0, c0, rfl, hl, hC⟩
 have hinh : Inhabited Value := ⟨.bool false⟩
 obtain ⟨V, hV⟩ := Go.Deep.choose_lt hV
 have h := anyInts (fun i => q (l.getD i [])) V g lb eg A l.length c w hr.2.1
  (fun hn => by
   obtain ⟨ad, ea, _⟩ := hr.2.2 hn
   refine ⟨ad, ea, fun i hi => ?_⟩
   obtain ⟨⟨ad', ea', hx⟩, _⟩ := hV i hi
   cases ea
   cases ea'
   exact hx)
  (fun i hi W hb => by
   obtain ⟨_, A0, c0, ev, hl, hC⟩ := hV i hi
   rw [ev]
   exact hp A0 c0 _ (by simp [List.getD, hi]) W hb (Kd.C_below hC hb) hl)
 rwa [anyI_list q [] _ l (fun i _ => rfl)] at h
def cnfB (vars : Int) (cs : List (List Int)) : Bool := decide (0 ≤ vars) && (decide (vars ≤ 40) && (decide (cs.length ≤ 300) && !(cs.any fun c => !(clauseB c vars))))
theorem below_drewN' {B : Nat} {a w : World} (h : Below B a w) (q : Nat) : Below B a (w.drewN q) := ⟨h.os, h.tape, h.output, h.size, h.block⟩
set_option maxHeartbeats 4000000 in
set_option maxRecDepth 100000 in
theorem isCnf_fn (A0 : Option Addr) (c0 : Nat) (l0 : List Int) (vars : Int) (B : Nat) (W : World) (hr0 : Kd.C (Kd.int .i64) W A0 l0.length l0) (hc0 : l0.length ≤ c0) (hB : W.cell? ⟨B, 0, none⟩ = some (.int .i64 vars)) :
  Calls Try.prog 99 #[.slice A0 l0.length c0, .pointer (some ⟨B, 0, none⟩)] W fun e W' => e = .returned (.bool (!(clauseB l0 vars))) ∧ Below W.heap.size W W' := by
 have hcall := fun V hV => impl_isClause.calls A0 c0 l0 vars _ V hV hc0 rfl
 have HR := Aside0.mk hr0
 clear hr0
 generalize clauseB l0 vars = b at hcall ⊢
 go_enter Try.func99, Try.ntmps99
 go_wp2_with (go_at_call 61; refine (hcall _ HR.out).mono ?_; rintro e w' ⟨rfl, hb⟩)
 go_ret
 exact ⟨rfl, hb⟩
def impl_isCnf.f (a0_0 : Int) (l0_1 : List (List Int)) : Option Bool := some (cnfB a0_0 l0_1)
set_option maxHeartbeats 4000000 in
set_option maxRecDepth 100000 in
theorem impl_isCnf.calls (a0_0 : Int) (A0_1 : Option Addr) (c0_1 : Nat) (l0_1 : List (List Int)) (r : Bool) (w : World) (hr0_1 : Kd.C (Kd.slice 3 (Kd.int .i64)) w A0_1 l0_1.length l0_1) (hc0_1 : l0_1.length ≤ c0_1) (h : impl_isCnf.f a0_0 l0_1 = some r) :
  Calls Try.prog 54 #[.agg #[.int .i64 a0_0, .slice A0_1 l0_1.length c0_1]] w fun e w' => e = .returned (.bool r) ∧ Below w.heap.size w w' := by
 obtain rfl : cnfB a0_0 l0_1 = r := Option.some.inj h
 clear h
 unfold cnfB
 have hu := Try.underlying30
 have hwi : ∀ V, Calls Try.prog 83 #[.int .i64 a0_0, .int .i64 0, .int .i64 40] V fun e V' => e = .returned (.bool (decide (0 ≤ a0_0) && decide (a0_0 ≤ 40))) ∧ Drawn0 V V' := fun V =>
  impl_within.calls a0_0 0 40 _ V (by
   unfold impl_within.f
   by_cases h : a0_0 ≥ 0
   ·rw [if_pos h, decide_eq_true h, Bool.true_and]
   ·rw [if_neg h, decide_eq_false h, Bool.false_and])
 have hcon := fun (W : World) (hbW : W.cell? ⟨w.heap.size, 0, none⟩ = some (.int .i64 a0_0)) (hlt : w.heap.size < W.heap.size) (hr : Kd.C (Kd.slice 3 (Kd.int .i64)) W A0_1 l0_1.length l0_1) =>
  anyIntsL (fun c => !(clauseB c a0_0)) 99 #[.pointer (some ⟨w.heap.size, 0, none⟩)] (enters_of Try.func99 (by kernel_rfl) rfl) A0_1 l0_1 c0_1 W hr
   (fun A0 c0 x W' hb hC hc => isCnf_fn A0 c0 x a0_0 _ W' hC hc ((hb.cell (p := ⟨w.heap.size, 0, none⟩) hlt).trans hbW))
 have hB0 : Below w.heap.size w (w.alloc (.cells #[.int .i64 a0_0, .slice A0_1 l0_1.length c0_1] 30)) := (Below.refl _ _).alloc (Nat.le_refl _) _
 have HR := Aside0.mk hr0_1
 have HC := Aside0.mk hc0_1
 clear hr0_1 hc0_1
 generalize (l0_1.any fun c => !(clauseB c a0_0)) = b at hcon ⊢
 cases hv : (decide (0 ≤ a0_0) && decide (a0_0 ≤ 40)) with
 | false =>
  have e1 : (decide (0 ≤ a0_0) && (decide (a0_0 ≤ 40) && (decide (l0_1.length ≤ 300) && !b))) = false := by rw [← Bool.and_assoc, hv, Bool.false_and]
  rw [e1]
  rw [hv] at hwi
  clear hcon hv e1
  go_enter Try.func54, Try.ntmps54
  go_wp2_with (go_at_call 83; refine (hwi _).mono ?_; rintro e w' ⟨rfl, ⟨nd, rfl⟩⟩)
  go_ret
  exact ⟨rfl, below_drewN' hB0 _⟩
 | true =>
  have e1 : (decide (0 ≤ a0_0) && (decide (a0_0 ≤ 40) && (decide (l0_1.length ≤ 300) && !b))) = (decide (l0_1.length ≤ 300) && !b) := by rw [← Bool.and_assoc, hv, Bool.true_and]
  rw [e1]
  rw [hv] at hwi
  clear hv e1
  by_cases hle : l0_1.length ≤ 300
  ·have hle2 : decide (l0_1.length ≤ 300) = true := decide_eq_true hle
   rw [hle2, Bool.true_and]
   go_enter Try.func54, Try.ntmps54
   go_wp2_with (first | (go_at_call 83; refine (hwi _).mono ?_; rintro e w' ⟨rfl, ⟨nd, rfl⟩⟩) | (go_at_call 98; refine (hcon _ (by simp) (by simp) (Kd.C_below HR.out (below_drewN' hB0 _))).mono ?_; rintro e w' ⟨rfl, hb⟩))
   go_ret
   exact ⟨rfl, (below_drewN' hB0 _).trans (hb.mono (below_drewN' hB0 _).size)⟩
  ·have hle2 : decide (l0_1.length ≤ 300) = false := decide_eq_false hle
   rw [hle2, Bool.false_and]
   have hle3 : 300 < l0_1.length := by omega
   clear hcon
   go_enter Try.func54, Try.ntmps54
   go_wp2_with (go_at_call 83; refine (hwi _).mono ?_; rintro e w' ⟨rfl, ⟨nd, rfl⟩⟩)
   go_ret
   exact ⟨rfl, below_drewN' hB0 _⟩
set_option maxHeartbeats 4000000 in
set_option maxRecDepth 100000 in
/-- slices.IndexFunc over a row of structs, with a predicate that may change what the invariant allows. -/
theorem idx68 (I : Nat → World → Prop) (p : Nat → Bool) (l : List (S68)) (g : Nat) (lb : Array Value) (eg : ∀ args w, (callFunc g args).run Try.prog w = .ok (.enter g args) w) (A : Option Addr) (c : Nat) (w : World) (hn : l.length ≤ 9223372036854775807) (h0 : I 0 w)
  (w0 : World) (hd : Kd.C k68 w0 A l.length l) (hB : ∀ i W, I i W → Below w0.heap.size w0 W)
  (hp : ∀ i, i < l.length → (∀ j, j < i → p j = false) → ∀ W, I i W → ∀ A2 c2, Kd.C (Kd.int .i64) w0 A2 (rd_T68 l (i : Int)).f1.length (rd_T68 l (i : Int)).f1 → (rd_T68 l (i : Int)).f1.length ≤ c2 →
   Calls Try.prog g (#[.agg #[.bool (rd_T68 l (i : Int)).f0, .slice A2 (rd_T68 l (i : Int)).f1.length c2]] ++ lb) W fun e W' => e = .returned (.bool (p i)) ∧ I (i + 1) W') :
  Calls Try.prog 125 #[.slice A l.length c, .func (.func g) #[] lb] w fun e w' => ∃ r : Int, e = .returned (.int .i64 r) ∧ ∃ m, m ≤ l.length ∧ I m w' ∧ ((r = -1 ∧ m = l.length ∧ ∀ j, j < m → p j = false) ∨ (0 ≤ r ∧ ∃ i, m = i + 1 ∧ p i = true ∧ ∀ j, j < i → p j = false)) := by
 have HP := Aside0.mk hp
 have HC := Aside0.mk hB
 have HD := Aside0.mk hd
 have H0 := Aside0.mk h0
 clear hp hB hd h0
 go_enter Try.func125, Try.ntmps125
 go_wp2
 go_loopg [5, 8] l.length (fun gg _ s8 wr => ∃ kk : Nat, kk ≤ l.length ∧ l.length - kk ≤ gg ∧ s8 = .int .i64 kk ∧ Aside0 (I kk wr) ∧ Aside0 (∀ j, j < kk → p j = false))
 case atStart => exact ⟨0, Nat.zero_le _, by omega, rfl, H0, ⟨fun j hj => absurd hj (Nat.not_lt_zero _)⟩⟩
 case round =>
  obtain ⟨kk, hkk, hg, rfl, HI, HN⟩ := hrel
  by_cases hlt : kk < l.length
  ·have hltz : (kk : Int) < (l.length : Int) := by omega
   obtain ⟨ad, A2, c2, ea, hx0, hx1, hl2, hC2⟩ := at_T68 HD.out (kk : Int) (by omega) (by omega)
   cases ea
   rw [Int.toNat_natCast] at hx0 hx1
   replace hx0 := ((HC.out kk wr HI.out).cell (World.block_lt_of_cell? w0 _ hx0)).trans hx0
   replace hx1 := ((HC.out kk wr HI.out).cell (World.block_lt_of_cell? w0 _ hx1)).trans hx1
   have hcall := HP.out kk hlt HN.out wr HI.out A2 c2 hC2 hl2
   have HP2 := Aside0.mk hC2
   clear hC2 hl2
   cases hq : p kk with
   | true =>
    rw [hq] at hcall
    have HQ := Aside0.mk hq
    clear hq
    go_wp2_with (go_at_fn g; refine hcall.mono ?_; rintro e w' ⟨rfl, hb⟩)
    go_ret
    exact ⟨kk, rfl, kk + 1, by omega, hb, .inr ⟨by omega, kk, rfl, HQ.out, HN.out⟩⟩
   | false =>
    rw [hq] at hcall
    have HQ := Aside0.mk hq
    clear hq
    go_wp2_with (go_at_fn g; refine hcall.mono ?_; rintro e w' ⟨rfl, hb⟩)
    go_roundg (l.length - (kk + 1))
    case measure => omega
    case rel =>
     refine ⟨kk + 1, by omega, by omega, by go_num, ⟨hb⟩, ⟨fun j hj => ?_⟩⟩
     by_cases e : j = kk
     ·subst e
      exact HQ.out
     ·exact HN.out j (by omega)
  ·have hltz : ¬ (kk : Int) < (l.length : Int) := by omega
   have : kk = l.length := by omega
   subst this
   go_wp2
   go_ret
   exact ⟨-1, rfl, l.length, Nat.le_refl _, HI.out, .inl ⟨rfl, rfl, HN.out⟩⟩
set_option maxHeartbeats 4000000 in
theorem any68 (I : Nat → World → Prop) (p : Nat → Bool) (l : List (S68)) (g : Nat) (lb : Array Value) (eg : ∀ args w, (callFunc g args).run Try.prog w = .ok (.enter g args) w) (A : Option Addr) (c : Nat) (w : World) (hn : l.length ≤ 9223372036854775807) (h0 : I 0 w)
  (w0 : World) (hd : Kd.C k68 w0 A l.length l) (hB : ∀ i W, I i W → Below w0.heap.size w0 W)
  (hp : ∀ i, i < l.length → (∀ j, j < i → p j = false) → ∀ W, I i W → ∀ A2 c2, Kd.C (Kd.int .i64) w0 A2 (rd_T68 l (i : Int)).f1.length (rd_T68 l (i : Int)).f1 → (rd_T68 l (i : Int)).f1.length ≤ c2 →
   Calls Try.prog g (#[.agg #[.bool (rd_T68 l (i : Int)).f0, .slice A2 (rd_T68 l (i : Int)).f1.length c2]] ++ lb) W fun e W' => e = .returned (.bool (p i)) ∧ I (i + 1) W') :
  Calls Try.prog 100 #[.slice A l.length c, .func (.func g) #[] lb] w fun e w' => ∃ b : Bool, e = .returned (.bool b) ∧ ∃ m, m ≤ l.length ∧ I m w' ∧ ((b = false ∧ m = l.length ∧ ∀ j, j < m → p j = false) ∨ (b = true ∧ ∃ i, m = i + 1 ∧ p i = true ∧ ∀ j, j < i → p j = false)) := by
 have hcall := idx68 I p l g lb eg A c w hn h0 w0 hd hB hp
 clear hp hB hd h0
 go_enter Try.func100, Try.ntmps100
 go_wp2_with (go_at_call 125; refine hcall.mono ?_; rintro e w' ⟨r, rfl, hr⟩)
 go_ret
 obtain ⟨m, hm, hI, h⟩ := hr
 refine ⟨_, rfl, m, hm, hI, ?_⟩
 rcases h with ⟨rfl, h⟩ | ⟨h0, h⟩
 ·exact .inl ⟨by first | rfl | simp, h⟩
 ·exact .inr ⟨by first | exact decide_eq_true h0 | (simp; omega), h⟩
def stepB (x : S68) (vars : Int) : Bool := clauseB x.f1 vars
set_option maxHeartbeats 4000000 in
set_option maxRecDepth 100000 in
theorem areSteps_fn (x : S68) (vars : Int) (B : Nat) (A2 : Option Addr) (c2 : Nat) (w : World) (hr : Kd.C (Kd.int .i64) w A2 x.f1.length x.f1) (hc : x.f1.length ≤ c2) (hB : w.cell? ⟨B, 0, none⟩ = some (.int .i64 vars)) :
  Calls Try.prog 101 #[.agg #[.bool x.f0, .slice A2 x.f1.length c2], .pointer (some ⟨B, 0, none⟩)] w fun e w' => e = .returned (.bool (!(stepB x vars))) ∧ Below w.heap.size w w' := by
 obtain ⟨x0, x1⟩ := x
 have hBl : Below w.heap.size w (w.alloc (.cells #[.bool x0, .slice A2 x1.length c2] 68)) := (Below.refl _ _).alloc (Nat.le_refl _) _
 have hcall := fun W (h : Below w.heap.size w W) => impl_isClause.calls A2 c2 x1 vars (stepB ⟨x0, x1⟩ vars) W (Kd.C_below hr h) hc rfl
 have hB2 := (hBl.cell (p := ⟨B, 0, none⟩) (World.block_lt_of_cell? _ _ hB)).trans hB
 have HBl := Aside0.mk hBl
 have hc1 := hcall _ hBl
 clear hr hc hBl hcall
 generalize stepB ⟨x0, x1⟩ vars = b at hc1 ⊢
 go_enter Try.func101, Try.ntmps101
 go_wp2_with (go_at_call 61; refine hc1.mono ?_; rintro e w' ⟨rfl, hb⟩)
 go_ret
 exact ⟨rfl, HBl.out.trans (hb.mono HBl.out.size)⟩
def stepsB (l0 : List (S68)) (vars : Int) : Bool := decide (l0.length ≤ 200) && l0.all (fun x => stepB x vars)
def impl_areSteps.f (l0 : List (S68)) (a1 : Int) : Option Bool := some (stepsB l0 a1)
set_option maxHeartbeats 4000000 in
set_option maxRecDepth 100000 in
theorem impl_areSteps.calls (A0 : Option Addr) (c0 : Nat) (l0 : List (S68)) (a1 : Int) (r : Bool) (w : World) (hr0 : Kd.C k68 w A0 l0.length l0) (hc0 : l0.length ≤ c0) (h : impl_areSteps.f l0 a1 = some r) :
  Calls Try.prog 55 #[.slice A0 l0.length c0, .int .i64 a1] w fun e w' => e = .returned (.bool r) ∧ Below w.heap.size w w' := by
 obtain rfl : stepsB l0 a1 = r := Option.some.inj h
 clear h
 have hB0 : Below w.heap.size w (w.alloc (.cells #[.int .i64 a1] 3)) := (Below.refl _ _).alloc (Nat.le_refl _) _
 have hcell : (w.alloc (.cells #[.int .i64 a1] 3)).cell? ⟨w.heap.size, 0, none⟩ = some (.int .i64 a1) := by simp
 have hlt : w.heap.size < (w.alloc (.cells #[.int .i64 a1] 3)).heap.size := by simp
 by_cases hle : l0.length ≤ 200
 ·have e1 : stepsB l0 a1 = l0.all (fun x => stepB x a1) := by unfold stepsB; rw [decide_eq_true hle, Bool.true_and]
  rw [e1]
  have hcall := any68 (fun _ W => Below (w.alloc (.cells #[.int .i64 a1] 3)).heap.size (w.alloc (.cells #[.int .i64 a1] 3)) W) (fun i => !(stepB (rd_T68 l0 (i : Int)) a1)) l0 101 #[.pointer (some ⟨w.heap.size, 0, none⟩)] (enters_of Try.func101 (by kernel_rfl) rfl) A0 c0 (w.alloc (.cells #[.int .i64 a1] 3)) (Kd.C_max hr0) (Below.refl _ _) (w.alloc (.cells #[.int .i64 a1] 3)) (Kd.C_below hr0 hB0) (fun _ _ h => h)
   (fun i hi _ W hW A2 c2 hd hc => (areSteps_fn (rd_T68 l0 (i : Int)) a1 w.heap.size A2 c2 W (Kd.C_below hd hW) hc ((hW.cell (p := ⟨w.heap.size, 0, none⟩) hlt).trans hcell)).mono (by
    rintro e w' ⟨rfl, hb⟩
    exact ⟨rfl, hW.trans (hb.mono hW.size)⟩))
  have hans : ∀ (b : Bool) (m : Nat), ((b = false ∧ m = l0.length ∧ ∀ j, j < m → (!(stepB (rd_T68 l0 (j : Int)) a1)) = false) ∨ (b = true ∧ ∃ i, m = i + 1 ∧ (!(stepB (rd_T68 l0 (i : Int)) a1)) = true ∧ ∀ j, j < i → (!(stepB (rd_T68 l0 (j : Int)) a1)) = false)) → m ≤ l0.length → (!b) = l0.all (fun x => stepB x a1) := by
   rintro b m (⟨rfl, rfl, h1⟩ | ⟨rfl, i, rfl, h1, h2⟩) hm
   ·symm
    rw [Bool.not_false, List.all_eq_true]
    intro x hx
    obtain ⟨j, hj, rfl⟩ := List.getElem_of_mem hx
    have hr : rd_T68 l0 (j : Int) = l0[j] := by unfold rd_T68; simp [List.getD, hj]
    have := h1 j hj
    rw [hr] at this
    simpa using this
   ·have hi : i < l0.length := by omega
    have hr : rd_T68 l0 (i : Int) = l0[i] := by unfold rd_T68; simp [List.getD, hi]
    rw [hr] at h1
    cases hb : l0.all (fun x => stepB x a1) with
    | false => rfl
    | true =>
     rw [List.all_eq_true] at hb
     have h3 := hb _ (List.getElem_mem hi)
     rw [h3] at h1
     cases h1
  have HA := Aside0.mk hans
  have HB0 := Aside0.mk hB0
  clear hr0 hc0 hans e1 hB0 hcell hlt
  go_enter Try.func55, Try.ntmps55
  go_wp2_with (go_at_call 100; refine hcall.mono ?_; rintro e w' ⟨b, rfl, m, hm, hb, hq⟩)
  go_ret
  rw [← HA.out b m hq hm]
  exact ⟨rfl, HB0.out.trans (hb.mono HB0.out.size)⟩
 ·have e1 : stepsB l0 a1 = false := by unfold stepsB; rw [decide_eq_false hle, Bool.false_and]
  rw [e1]
  have hgt : 200 < l0.length := by omega
  have HB0 := Aside0.mk hB0
  clear hr0 hc0 e1 hB0 hcell hlt hle
  go_enter Try.func55, Try.ntmps55
  go_wp2
  go_ret
  exact ⟨rfl, HB0.out⟩
def isL (vals : List Int) (x : Int) : Bool := if x < 0 then rd vals (-x) == -1 else rd vals x == 1
def setL (vals : List Int) (x : Int) : List Int := if x < 0 then vals.set (-x).toNat (-1) else vals.set x.toNat 1
theorem setL_length (vals : List Int) (x : Int) : (setL vals x).length = vals.length := by
 unfold setL
 split <;> simp
def unitL (vals : List Int) : List Int → Int → Int × Bool
 | [], one => (one, one == 0)
 | x :: r, one => if isL vals x = true then (0, false) else if isL vals (-x) = true then unitL vals r one else if x = one then unitL vals r one else if one = 0 then unitL vals r x else (0, false)
def fitL (n : Nat) (c : List Int) : Bool := c.all fun x => decide (x.natAbs < n)
theorem fitL_at {n : Nat} {c : List Int} (h : fitL n c = true) (k : Nat) (hk : k < c.length) : c[k].natAbs < n := by
 have := List.all_eq_true.1 h c[k] (List.getElem_mem hk)
 exact of_decide_eq_true this
set_option maxHeartbeats 4000000 in
theorem is_any (g : Nat) (vals : List Int) (A : Option Addr) (c : Nat) (x : Int) (W : World) (hs : W.cell? ⟨g, 2, none⟩ = some (.slice A vals.length c)) (hC : Kd.C (Kd.int .i64) W A vals.length vals) (hx : x.natAbs < vals.length) (hn : vals.length ≤ 4096) :
  Calls Try.prog 69 #[.pointer (some ⟨g, 0, none⟩), .int .i64 x] W fun e W' => e = .returned (.bool (isL vals x)) ∧ W' = W := by
 unfold isL
 by_cases h : x < 0
 ·rw [if_pos h]
  have e1 : IntKind.i64.wrap (-x) = -x := IntWalk.i64_in _ (by omega)
  obtain ⟨ad, ea, hc⟩ := Kd.at_int hC (-x) (by omega) (by omega)
  subst ea
  have p0 : 0 ≤ -x := by omega
  have p1 : -x < (vals.length : Int) := by omega
  clear hC
  go_enter Try.func69, Try.ntmps69
  go_wp2
  go_ret
  exact ⟨rfl, rfl⟩
 ·rw [if_neg h]
  obtain ⟨ad, ea, hc⟩ := Kd.at_int hC x (by omega) (by omega)
  subst ea
  have p0 : 0 ≤ x := by omega
  have p1 : x < (vals.length : Int) := by omega
  clear hC
  go_enter Try.func69, Try.ntmps69
  go_wp2
  go_ret
  exact ⟨rfl, rfl⟩
set_option maxHeartbeats 4000000 in
theorem set_any (g b : Nat) (n c : Nat) (x old : Int) (W : World) (hs : W.cell? ⟨g, 2, none⟩ = some (.slice (some ⟨b, 0, none⟩) n c)) (hx : x.natAbs < n) (hn : n ≤ 4096) (hc : W.cell? ⟨b, x.natAbs, none⟩ = some (.int .i64 old)) (hf : W.frozen? ⟨b, x.natAbs, none⟩ = false) :
  Calls Try.prog 70 #[.pointer (some ⟨g, 0, none⟩), .int .i64 x] W fun e W' => e = .returned (.tuple #[]) ∧ W' = W.setCell ⟨b, x.natAbs, none⟩ (.int .i64 (if x < 0 then -1 else 1)) := by
 by_cases h : x < 0
 ·rw [if_pos h]
  have e1 : IntKind.i64.wrap (-x) = -x := IntWalk.i64_in _ (by omega)
  have e2 : x.natAbs = (-x).toNat := by omega
  rw [e2] at hc hf ⊢
  have p0 : 0 ≤ -x := by omega
  have p1 : -x < (n : Int) := by omega
  clear e2 hx
  go_enter Try.func70, Try.ntmps70
  go_wp2
  first | go_end0 | ((try simp only [Exit.inBlock, Exit.then]); refine bodyPost_ret (results_none rfl _ _ _) rfl ?_)
  exact ⟨rfl, rfl⟩
 ·rw [if_neg h]
  have e2 : x.natAbs = x.toNat := by omega
  rw [e2] at hc hf ⊢
  have p0 : 0 ≤ x := by omega
  have p1 : x < (n : Int) := by omega
  clear e2 hx
  go_enter Try.func70, Try.ntmps70
  go_wp2
  first | go_end0 | ((try simp only [Exit.inBlock, Exit.then]); refine bodyPost_ret (results_none rfl _ _ _) rfl ?_)
  exact ⟨rfl, rfl⟩
set_option maxHeartbeats 8000000 in
set_option maxRecDepth 100000 in
theorem unit_any (g : Nat) (vals : List Int) (A : Option Addr) (c : Nat) (A1 : Option Addr) (c1 : Nat) (l : List Int) (W : World) (hs : W.cell? ⟨g, 2, none⟩ = some (.slice A vals.length c)) (hC : Kd.C (Kd.int .i64) W A vals.length vals) (hl : Kd.C (Kd.int .i64) W A1 l.length l) (hfit : fitL vals.length l = true) (hn : vals.length ≤ 4096) :
  Calls Try.prog 106 #[.pointer (some ⟨g, 0, none⟩), .slice A1 l.length c1] W fun e W' => e = .returned (.tuple #[.int .i64 (unitL vals l 0).1, .bool (unitL vals l 0).2]) ∧ W' = W := by
 have his := fun x hx => is_any g vals A c x W hs hC hx hn
 have HN := Aside0.mk hn
 have HF := Aside0.mk hfit
 have HL := Aside0.mk hl
 have hmax : l.length ≤ 9223372036854775807 := Kd.C_max hl
 clear hs hC hl hfit hn
 have HI := Aside0.mk his
 clear his
 obtain ⟨r, hr⟩ : ∃ r, unitL vals l 0 = r := ⟨_, rfl⟩
 rw [hr]
 have H' : Aside0 (unitL vals (l.drop 0) 0 = r) := ⟨by rw [List.drop_zero]; exact hr⟩
 clear hr
 go_enter Try.func106, Try.ntmps106
 go_wp2
 go_loopg [6, 11] l.length (fun gg v6 v11 wr => ∃ (one : Int) (kk : Nat), v6 = .int .i64 one ∧ v11 = .int .i64 kk ∧ kk ≤ l.length ∧ l.length - kk ≤ gg ∧ Aside0 (unitL vals (l.drop kk) one = r) ∧ wr = W)
 case atStart => exact ⟨0, 0, rfl, rfl, Nat.zero_le _, by omega, H', rfl⟩
 case round =>
  clear H'
  obtain ⟨one, kk, rfl, rfl, hk, hg, HA, rfl⟩ := hrel
  by_cases hlt : kk < l.length
  ·have hltz : (kk : Int) < (l.length : Int) := by omega
   have h0z : (0 : Int) ≤ (kk : Int) := by omega
   obtain ⟨ad, ea, hx⟩ := Kd.at_int HL.out (kk : Int) h0z hltz
   subst ea
   rw [Int.toNat_natCast] at hx
   have hrd : rd l (kk : Int) = l[kk] := by unfold rd; simp [List.getD, hlt]
   have hA := HA.out
   rw [List.drop_eq_getElem_cons hlt, unitL, ← hrd] at hA
   have hfx : (rd l (kk : Int)).natAbs < vals.length := by rw [hrd]; exact fitL_at HF.out kk hlt
   have ew : IntKind.i64.wrap ((kk : Int) + 1) = ((kk + 1 : Nat) : Int) := IntWalk.i64_in _ (by omega)
   clear hrd HA
   generalize rd l (kk : Int) = x at hx hA hfx
   have hn := HN.out
   have ex : IntKind.i64.wrap (-x) = -x := IntWalk.i64_in _ (by omega)
   have h1 := HI.out x hfx
   have h2 := HI.out (-x) (by omega)
   clear hfx hn
   cases ha : isL vals x with
   | true =>
    rw [ha, if_pos rfl] at hA
    rw [ha] at h1
    subst hA
    clear ha
    go_wp2_with (go_at_call 69; refine h1.mono ?_; rintro e w' ⟨rfl, rfl⟩)
    go_ret2
    exact ⟨rfl, rfl⟩
   | false =>
    rw [ha, if_neg Bool.false_ne_true] at hA
    rw [ha] at h1
    clear ha
    cases hb : isL vals (-x) with
    | true =>
     rw [hb, if_pos rfl] at hA
     rw [hb] at h2
     clear hb
     have HA2 := Aside0.mk hA
     clear hA
     go_wp2_with (go_at_call 69; first | (refine h1.mono ?_; rintro e w' ⟨rfl, rfl⟩; clear h1) | (refine h2.mono ?_; rintro e w' ⟨rfl, rfl⟩; clear h2))
     go_roundg (gk - 1)
     case measure => omega
     case rel => exact ⟨one, kk + 1, rfl, rfl, by omega, by omega, HA2, rfl⟩
    | false =>
     rw [hb, if_neg Bool.false_ne_true] at hA
     rw [hb] at h2
     clear hb
     by_cases hxo : x = one
     ·rw [if_pos hxo] at hA
      subst hxo
      have HA2 := Aside0.mk hA
      clear hA
      go_wp2_with (go_at_call 69; first | (refine h1.mono ?_; rintro e w' ⟨rfl, rfl⟩; clear h1) | (refine h2.mono ?_; rintro e w' ⟨rfl, rfl⟩; clear h2))
      go_roundg (gk - 1)
      case measure => omega
      case rel => exact ⟨x, kk + 1, rfl, rfl, by omega, by omega, HA2, rfl⟩
     ·rw [if_neg hxo] at hA
      have hxo2 : (x == one) = false := beq_eq_false_iff_ne.mpr hxo
      by_cases h0 : one = 0
      ·rw [if_pos h0] at hA
       subst h0
       have HA2 := Aside0.mk hA
       clear hA
       go_wp2_with (go_at_call 69; first | (refine h1.mono ?_; rintro e w' ⟨rfl, rfl⟩; clear h1) | (refine h2.mono ?_; rintro e w' ⟨rfl, rfl⟩; clear h2))
       go_roundg (gk - 1)
       case measure => omega
       case rel => exact ⟨x, kk + 1, rfl, rfl, by omega, by omega, HA2, rfl⟩
      ·rw [if_neg h0] at hA
       subst hA
       have h02 : (one != 0) = true := bne_iff_ne.mpr h0
       go_wp2_with (go_at_call 69; first | (refine h1.mono ?_; rintro e w' ⟨rfl, rfl⟩; clear h1) | (refine h2.mono ?_; rintro e w' ⟨rfl, rfl⟩; clear h2))
       go_ret2
       exact ⟨rfl, rfl⟩
  ·have hA := HA.out
   obtain rfl : kk = l.length := by omega
   rw [List.drop_length, unitL] at hA
   subst hA
   go_wp2
   go_ret2
   exact ⟨rfl, rfl⟩
end Go.Proofs.Ytelfahcjeldliaa.PFnExactCheckProof
end
section
namespace Go.Proofs.Ytelfahcjeldliaa.PFnExactCheckProof
open Go.RowKit Go.Proofs.YtelfahcjeldliaaW.PrintWords Go.Proofs.YtelfahcjeldliaaW.PrintLast Go.Proofs.YtelfahcjeldliaaW.PrintMore
attribute [local go_sem] max2_int min2_int max_two min_two max_three min_three max_four min_four   -- for this text's walks alone
set_option linter.unusedVariables false
set_option linter.unusedSimpArgs false
structure ST (w0 W : World) (g b : Nat) (vars : Int) (A : Option Addr) (n c cv : Nat) (vals : List Int) : Prop where
 base : Below w0.heap.size w0 W
 old : w0.heap.size ≤ g
 blk : W.heap[g]? = some (.cells #[.int .i64 vars, .slice A n c, .slice (some ⟨b, 0, none⟩) vals.length cv] 112 (0, 0))
 own : Kd.R (Kd.int .i64) 3 W w0.heap.size (fun _ => True) (.slice (some ⟨b, 0, none⟩) vals.length cv) vals
section
variable {w0 W W2 : World} {g b : Nat} {vars : Int} {A : Option Addr} {n c cv : Nat} {vals : List Int}
theorem ST.ne (h : ST w0 W g b vars A n c cv vals) : g ≠ b := fun e => Kd.R_ne h.own h.blk (by decide) (by simp [Value.ownBlock, e])
theorem ST.glt (h : ST w0 W g b vars A n c cv vals) : g < W.heap.size := blk_lt h.blk
theorem ST.blt (h : ST w0 W g b vars A n c cv vals) : b < W.heap.size := Kd.R_lt h.own b (by simp [Value.ownBlock])
theorem ST.bold (h : ST w0 W g b vars A n c cv vals) : w0.heap.size ≤ b := Kd.R_base h.own b (by simp [Value.ownBlock])
theorem ST.cells (h : ST w0 W g b vars A n c cv vals) : W.cell? ⟨g, 0, none⟩ = some (.int .i64 vars) ∧ W.cell? ⟨g, 1, none⟩ = some (.slice A n c) ∧ W.cell? ⟨g, 2, none⟩ = some (.slice (some ⟨b, 0, none⟩) vals.length cv) :=
 ⟨(blk_cell h.blk 0).trans rfl, (blk_cell h.blk 1).trans rfl, (blk_cell h.blk 2).trans rfl⟩
theorem ST.reads (h : ST w0 W g b vars A n c cv vals) : Kd.C (Kd.int .i64) W (some ⟨b, 0, none⟩) vals.length vals := (Kd.R_reads' h.own).2.2
theorem ST.grown {row : Option Nat} (h : ST w0 W g b vars A n c cv vals) (hg : W.grownBy W2 row) (hB : Below w0.heap.size w0 W2) (h1 : row ≠ some g) (h2 : row ≠ some b) : ST w0 W2 g b vars A n c cv vals :=
 ⟨hB, h.old, (hg.block g h.glt (fun e => h1 e.symm)).trans h.blk, Kd.R_grown1 h.own rfl hg h2⟩
theorem ST.set (h : ST w0 W g b vars A n c cv vals) (x : Int) : ST w0 (W.setCell ⟨b, x.natAbs, none⟩ (.int .i64 (if x < 0 then -1 else 1))) g b vars A n c cv (setL vals x) := by
 have hb : ∀ u, (W.setCell ⟨b, x.natAbs, none⟩ u).heap[g]? = W.heap[g]? := fun u => Below.heap_setCell W ⟨b, x.natAbs, none⟩ u g h.ne
 have hs := below_set (j := x.natAbs) (v := .int .i64 (if x < 0 then -1 else 1)) h.base h.bold
 refine ⟨hs, h.old, ?_, ?_⟩
 ·rw [hb, setL_length]
  exact h.blk
 ·rw [setL_length]
  unfold setL
  by_cases hx : x < 0
  ·rw [if_pos hx, if_pos hx]
   have e : x.natAbs = (-x).toNat := by omega
   rw [e]
   exact (Kd.R_putg h.own (-x) (-1)).1
  ·rw [if_neg hx, if_neg hx]
   have e : x.natAbs = x.toNat := by omega
   rw [e]
   exact (Kd.R_putg h.own x 1).1
end
def scanL (vals : List Int) : List (List Int) → Nat → Int → Option Nat × Int
 | [], _, next => (none, next)
 | c :: r, i, next => if (unitL vals c 0).2 = true then (some i, next) else scanL vals r (i + 1) (if next = 0 then (unitL vals c 0).1 else next)
def propL (cs : List (List Int)) : Nat → List Int → List Int → Option (List Int × List Int × Int)
 | 0, _, _ => none
 | k + 1, vals, list => match scanL vals cs 0 0 with
  | (some i, _) => some (vals, list, (i : Int))
  | (none, next) => if next = 0 then some (vals, list, -1) else if list.length < 17592186044416 then propL cs k (setL vals next) (list ++ [next]) else none
theorem unitL_fit {n : Nat} (vals : List Int) : ∀ (c : List Int) (one : Int), fitL n c = true → one.natAbs < n → (unitL vals c one).1.natAbs < n
 | [], one, _, h => h
 | x :: r, one, hf, h => by
  unfold fitL at hf
  rw [List.all_cons, Bool.and_eq_true] at hf
  have hx := of_decide_eq_true hf.1
  unfold unitL
  split
  ·show (0 : Int).natAbs < n
   omega
  ·split
   ·exact unitL_fit vals r one hf.2 h
   ·split
    ·exact unitL_fit vals r one hf.2 h
    ·split
     ·exact unitL_fit vals r x hf.2 hx
     ·show (0 : Int).natAbs < n
      omega
theorem scanL_fit {n : Nat} (vals : List Int) : ∀ (cs : List (List Int)) (i : Nat) (next : Int), (cs.all fun c => fitL n c) = true → next.natAbs < n → (scanL vals cs i next).2.natAbs < n
 | [], _, _, _, h => h
 | c :: r, i, next, hf, h => by
  rw [List.all_cons, Bool.and_eq_true] at hf
  unfold scanL
  split
  ·exact h
  ·refine scanL_fit vals r (i + 1) _ hf.2 ?_
   split
   ·exact unitL_fit vals c 0 hf.1 (by omega)
   ·exact h
set_option maxHeartbeats 8000000 in
set_option maxRecDepth 100000 in
theorem propagate_any (k : Nat) (g b : Nat) (vars : Int) (A : Option Addr) (c cv : Nat) (cs : List (List Int)) (vals vals2 list : List Int) (at_ : Int) (w0 w : World) (hS : ST w0 w g b vars A cs.length c cv vals) (hC : Kd.C (Kd.slice 3 (Kd.int .i64)) w0 A cs.length cs) (hfit : (cs.all fun c => fitL vals.length c) = true) (hn : vals.length ≤ 4096) (hp : 0 < vals.length) (h : propL cs k vals [] = some (vals2, list, at_)) :
  Calls Try.prog 71 #[.pointer (some ⟨g, 0, none⟩)] w fun e W' => ∃ v, e = .returned (.tuple #[v, .int .i64 at_]) ∧ Kd.R (Kd.int .i64) 3 W' w.heap.size (fun _ => True) v list ∧ ST w0 W' g b vars A cs.length c cv vals2 ∧ vals2.length = vals.length ∧ KeepBut w W' b none ∧ Below w0.heap.size w0 W' := by
 have HS := Aside0.mk hS
 have HC := Aside0.mk hC
 have HF := Aside0.mk hfit
 have HN := Aside0.mk hn
 have HP := Aside0.mk hp
 have HLT := Aside0.mk (And.intro hS.glt hS.blt)
 have HK := Aside0.mk (KeepBut.refl w b none)
 have HR := Aside0.mk (Kd.R_nil (Kd.int .i64) 3 w w.heap.size (fun k_ => w.heap.size ≤ k_))
 have H' := Aside0.mk h
 have hmax : cs.length ≤ 9223372036854775807 := Kd.C_max hC
 clear hS hC hfit hn hp h
 go_enter Try.func71, Try.ntmps71
 go_wp2
 go_loopg [4] k (fun gg v4 wr => ∃ (va li : List Int), va.length = vals.length ∧ Aside0 (propL cs gg va li = some (vals2, list, at_)) ∧ Aside0 (ST w0 wr g b vars A cs.length c cv va) ∧ Aside0 (Kd.R (Kd.int .i64) 3 wr w.heap.size (fun k_ => w.heap.size ≤ k_) v4 li) ∧ Aside0 (KeepBut w wr b none))
 case atStart => exact ⟨vals, [], rfl, H', HS, HR, HK⟩
 case round =>
  clear H' HS HR HK
  obtain ⟨va, li, hva, HA, HS, HR, HK⟩ := hrel
  cases gk with
  | zero => exact absurd HA.out (by simp [propL])
  | succ k1 =>
  have hA := HA.out
  rw [propL] at hA
  clear HA
  obtain ⟨q, hq⟩ : ∃ q, scanL va cs 0 0 = q := ⟨_, rfl⟩
  have hqf := scanL_fit va cs 0 0 HF.out (by have := HP.out; show (0 : Int).natAbs < _; omega)
  rw [hq] at hA hqf
  have HQ : Aside0 (scanL va (cs.drop 0) 0 0 = q) := ⟨by rw [List.drop_zero]; exact hq⟩
  have HA := Aside0.mk hA
  have HQF := Aside0.mk hqf
  clear hq hA hqf
  obtain ⟨hc0, hc1, hc2⟩ := HS.out.cells
  have HCC := Aside0.mk (And.intro hc0 (And.intro hc1 hc2))
  clear hc0 hc2
  go_wp2
  clear hc1
  go_loopg [5, 16] cs.length (fun gg v5 v16 wr2 => ∃ (next : Int) (kk : Nat), v5 = .int .i64 next ∧ v16 = .int .i64 kk ∧ kk ≤ cs.length ∧ cs.length - kk ≤ gg ∧ Aside0 (scanL va (cs.drop kk) kk next = q) ∧ wr2 = wr)
  case atStart => exact ⟨0, 0, rfl, rfl, Nat.zero_le _, by omega, HQ, rfl⟩
  case round =>
   clear HQ
   obtain ⟨next, kk, rfl, rfl, hk, hg, HQ, rfl⟩ := hrel
   by_cases hlt : kk < cs.length
   ·have hltz : (kk : Int) < (cs.length : Int) := by omega
    have h0z : (0 : Int) ≤ (kk : Int) := by omega
    obtain ⟨ad, A0, c0, ea, hx, hlen, hC0⟩ := at_L1 HC.out (kk : Int) h0z hltz
    subst ea
    rw [Int.toNat_natCast] at hx
    have hrd : rd_L1 cs (kk : Int) = cs[kk] := by unfold rd_L1; simp [List.getD, hlt]
    have hQ := HQ.out
    rw [List.drop_eq_getElem_cons hlt, scanL, ← hrd] at hQ
    have hfc : fitL vals.length (rd_L1 cs (kk : Int)) = true := by rw [hrd]; exact List.all_eq_true.1 HF.out _ (List.getElem_mem hlt)
    have ew : IntKind.i64.wrap ((kk : Int) + 1) = ((kk + 1 : Nat) : Int) := IntWalk.i64_in _ (by omega)
    clear hrd HQ
    generalize rd_L1 cs (kk : Int) = l at hx hlen hC0 hQ hfc
    have hx2 := (HS.out.base.cell (World.block_lt_of_cell? w0 _ hx)).trans hx
    have hcall := unit_any g va _ cv A0 c0 l wr HCC.out.2.2 HS.out.reads (Kd.C_below hC0 HS.out.base) (by rw [hva]; exact hfc) (by rw [hva]; exact HN.out)
    clear hx hlen hC0 hfc
    obtain ⟨u, hu⟩ : ∃ u, unitL va l 0 = u := ⟨_, rfl⟩
    rw [hu] at hQ hcall
    clear hu
    obtain ⟨one, fl⟩ := u
    simp only at hQ hcall
    cases fl with
    | true =>
     rw [if_pos rfl] at hQ
     have hA := HA.out
     subst hQ
     simp only [Option.some.injEq, Prod.mk.injEq] at hA
     obtain ⟨rfl, rfl, rfl⟩ := hA
     clear HA
     go_wp2_with (go_at_call 106; refine hcall.mono ?_; rintro e w' ⟨rfl, rfl⟩)
     go_ret2
     exact ⟨_, rfl, Kd.R_mono HR.out (fun _ _ => trivial), HS.out, hva, HK.out, HS.out.base⟩
    | false =>
     rw [if_neg Bool.false_ne_true] at hQ
     have HQ2 := Aside0.mk hQ
     clear hQ
     by_cases h0 : next = 0
     ·subst h0
      rw [if_pos rfl] at HQ2
      go_wp2_with (go_at_call 106; refine hcall.mono ?_; rintro e w' ⟨rfl, rfl⟩)
      go_roundg (gk - 1)
      case measure => omega
      case rel => exact ⟨one, kk + 1, rfl, rfl, by omega, by omega, HQ2, rfl⟩
     ·rw [if_neg h0] at HQ2
      have h02 : (next == 0) = false := beq_eq_false_iff_ne.mpr h0
      go_wp2_with (go_at_call 106; refine hcall.mono ?_; rintro e w' ⟨rfl, rfl⟩)
      go_roundg (gk - 1)
      case measure => omega
      case rel => exact ⟨next, kk + 1, rfl, rfl, by omega, by omega, HQ2, rfl⟩
   ·have hQ := HQ.out
    obtain rfl : kk = cs.length := by omega
    rw [List.drop_length, scanL] at hQ
    subst hQ
    have hA := HA.out
    simp only at hA
    have hqf := HQF.out
    simp only at hqf
    clear HQF HA HQ
    by_cases h0 : next = 0
    ·subst h0
     rw [if_pos rfl] at hA
     simp only [Option.some.injEq, Prod.mk.injEq] at hA
     obtain ⟨rfl, rfl, rfl⟩ := hA
     go_wp2
     go_ret2
     exact ⟨_, rfl, Kd.R_mono HR.out (fun _ _ => trivial), HS.out, hva, HK.out, HS.out.base⟩
    ·rw [if_neg h0] at hA
     have h02 : (next == 0) = false := beq_eq_false_iff_ne.mpr h0
     by_cases hl : li.length < 17592186044416
     ·rw [if_pos hl] at hA
      have H' := Aside0.mk hA
      have LM := Aside0.mk hl
      obtain ⟨hcx, hfx⟩ := Kd.R_celln 0 HS.out.own (next.natAbs : Int) (by omega) (by rw [hva]; omega)
      rw [Int.toNat_natCast] at hcx hfx
      have hcall := set_any g b va.length cv next _ wr HCC.out.2.2 (by rw [hva]; exact hqf) (by rw [hva]; exact HN.out) hcx hfx
      have HS2 := Aside0.mk (HS.out.set next)
      have HR2 := Aside0.mk (Kd.R_far (p := ⟨b, next.natAbs, none⟩) HR.out (fun k_ hk_ => by have := HLT.out.2; show k_ ≠ b; omega) (.int .i64 (if next < 0 then -1 else 1)))
      have HK2 := Aside0.mk (KeepBut.set_ HK.out next.natAbs (.int .i64 (if next < 0 then -1 else 1)))
      clear hcx hfx hl hA HS HR HK HCC
      generalize wr.setCell ⟨b, next.natAbs, none⟩ (.int .i64 (if next < 0 then -1 else 1)) = wr2 at hcall HS2 HR2 HK2
      go_wp2_with (first
       | (go_at_call 70; refine hcall.mono ?_; rintro e w' ⟨rfl, hq⟩; have hq2 := hq.symm; clear hcall hq; subst hq2)
       | ((with_reducible refine gate_builtin (b := .append) (xs := #[.tmp 40, .tmp 42]) rfl ?_); at_builtin; refine Kd.R_append (Kd.int .i64) (w0 := wr2) w.heap.size rfl (.tmp 40) (.tmp 42) 37 3 (.int .i64 0) 8 rfl Try.underlying37 info3 rfl (by decide) (by omega) u4 li next [.int .i64 next] (fun k_ => w.heap.size ≤ k_) (fun _ => False) rfl rfl ?aP (fun _ hk => hk.elim) ?aF ?aO ?aB ?aS ?aL ?_; (case aP => exact rfl); (case aF => exact fun k_ hk_ => Nat.le_trans HK2.out.1 hk_); (case aO => exact HR2.out); (case aB => exact Below.refl _ _); (case aS => exact HK2.out.1); (case aL => have := LM.out; omega); intro v1 w1 ho hb hg2 hat; have n0_ := Aside0.mk ho; have n1_ := Aside0.mk (HS2.out.grown hg2 (HS2.out.base.trans (hb.mono (by have := HS2.out.old; have := HLT.out.1; omega))) (fun e_ => by have := HR2.out.1 _ e_; have := HLT.out.1; omega) (fun e_ => by have := HR2.out.1 _ e_; have := HLT.out.2; omega)); have n2_ := Aside0.mk (show KeepBut w w1 b none from ⟨Nat.le_trans HK2.out.1 hg2.size, fun i_ hi_ hne_ hr_ => (hb.block i_ hi_).trans (HK2.out.2 i_ hi_ hne_ hr_)⟩); clear HS2 HR2 HK2 hb hg2 hat ho))
      go_roundg k1
      case measure => omega
      case rel => exact ⟨setL va next, li ++ [next], by rw [setL_length]; exact hva, H', n1_, n0_, n2_⟩
     ·rw [if_neg hl] at hA
      cases hA
def newState_T : Bool × List (List Nat × List Nat) := (true, [([], []), ([], []), ([1], [1]), ([2], [2]), ([3, 3], [3]), ([0, 4], [0, 4]), ([5], [5]), ([6, 0, 1, 2, 3, 4, 5, 6], [6])])
def newState_B : List Nat := [0, 0, 2, 6, 14, 31, 63, 127]
theorem newState_tab : rtab .any (opsOf Try.f67 1) = newState_T := by kernel_rfl
theorem newState_bits : waitsOk newState_T.2 newState_B = true := by kernel_rfl
set_option maxHeartbeats 4000000 in
set_option maxRecDepth 100000 in
theorem newState_any (vars : Int) (A : Option Addr) (n c : Nat) (w : World) (h0 : 0 ≤ vars) (h1 : vars ≤ 4000) :
  Calls Try.prog 67 #[.agg #[.int .i64 vars, .slice A n c]] w fun e W' => ∃ g b cv, e = .returned (.pointer (some ⟨g, 0, none⟩)) ∧ ST w W' g b vars A n c cv (List.replicate (vars + 1).toNat 0) := by
 obtain ⟨vs, hvs⟩ : ∃ vs, List.replicate (vars + 1).toNat (0 : Int) = vs := ⟨_, rfl⟩
 rw [hvs]
 have HV := Aside0.mk hvs
 have HVL := Aside0.mk (show vs.length = (vars + 1).toNat by rw [← hvs]; simp)
 clear hvs
 have hu_Cnf := Try.underlying30
 have hu_state := Try.underlying112
 have ew : IntKind.i64.wrap (vars + 1) = vars + 1 := IntWalk.i64_in _ (by omega)
 go_enter Try.func67, Try.ntmps67
 have hW : (w.alloc (.cells #[.int .i64 vars, .slice A n c] 30)).heap[w.heap.size]? = some (.cells #[.int .i64 vars, .slice A n c] 30 (0, 0)) := by
  show (w.heap.push _)[w.heap.size]? = _
  simp
 obtain ⟨W1, gb, hW1, hgb, BX, HB1⟩ : ∃ W1 gb, w.alloc (.cells #[.int .i64 vars, .slice A n c] 30) = W1 ∧ w.heap.size = gb ∧ Aside0 (W1.heap[gb]? = some (.cells #[.int .i64 vars, .slice A n c] 30 (0, 0))) ∧ Aside0 (Below w.heap.size w W1) :=
  ⟨_, _, rfl, rfl, ⟨hW⟩, ⟨(Below.refl _ _).alloc (Nat.le_refl _) _⟩⟩
 have HW1 := Aside0.mk hW1
 have HGB := Aside0.mk hgb
 clear hW hW1 hgb
 go_upto_region 1 with fail
 rw [HW1.out, HGB.out]
 clear HW1
 refine start_ (n := 8) (S := fun w' => w'.cell? ⟨gb, 0, none⟩ = some (.int .i64 vars) ∧ w'.cell? ⟨gb, 1, none⟩ = some (.slice A n c)) (ds := []) #[false, false, false, false, false, false, false, false] (by kernel_rfl) rfl rfl ⟨(blk_cell BX.out 0).trans rfl, (blk_cell BX.out 1).trans rfl⟩ (fun hHeld => ?_)
 refine with_tabW newState_tab newState_bits (fun HT_ HW_ => ?_)
 replace BX : Aside0 (W1.drew.heap[gb]? = some (.cells #[.int .i64 vars, .slice A n c] 30 (0, 0))) := ⟨BX.out⟩
 replace HB1 : Aside0 (Below w.heap.size w W1.drew) := ⟨HB1.out.drew⟩
 generalize W1.drew = w20 at BX HB1 hHeld ⊢
 refine pure_ (i := 1) (N := some 4) (v := ?_) (a' := ?_) #[false, true, false, false, false, false, false, false] rfl rfl (any_of HT_.out (by kernel_rfl)) (fun _ _ _ h => h) (Or.inl ⟨by rfl, ?_⟩) ?_ ?_
 rotate_left
 ·intro w'
  go_simp
  with_reducible rfl
 rotate_left
 ·simp only [Act.put, List.setIfInBounds_toArray, List.set_cons_zero, List.set_cons_succ, i64_w, i32_w]
  rfl
 refine take_ (i := 0) (N := some 3) (v := ?_) (a' := ?_) #[true, true, false, false, false, false, false, false] rfl rfl (take_ofW HT_.out HW_.out (by kernel_rfl)) (fun _ _ _ h => h) (Or.inl ⟨by rfl, ?_⟩) hHeld ?_ ?_
 rotate_left
 ·rintro w' ⟨s0, s1⟩
  go_simp
  with_reducible rfl
 rotate_left
 ·simp only [Act.put, List.setIfInBounds_toArray, List.set_cons_zero, List.set_cons_succ, i64_w, i32_w]
  rfl
 refine take_ (i := 2) (N := some 5) (v := ?_) (a' := ?_) #[true, true, true, false, false, false, false, false] rfl rfl (take_ofW HT_.out HW_.out (by kernel_rfl)) (fun _ _ _ h => h) (Or.inl ⟨by rfl, ?_⟩) hHeld ?_ ?_
 rotate_left
 ·rintro w' ⟨s0, s1⟩
  go_simp
  with_reducible rfl
 rotate_left
 ·simp only [Act.put, List.setIfInBounds_toArray, List.set_cons_zero, List.set_cons_succ, i64_w, i32_w]
  rfl
 refine pure_ (i := 3) (N := some 6) (v := ?_) (a' := ?_) #[true, true, true, true, false, false, false, false] rfl rfl (any_of HT_.out (by kernel_rfl)) (fun _ _ _ h => h) (Or.inl ⟨by rfl, ?_⟩) ?_ ?_
 rotate_left
 ·intro w'
  go_simp
  with_reducible rfl
 rotate_left
 ·simp only [Act.put, List.setIfInBounds_toArray, List.set_cons_zero, List.set_cons_succ, i64_w, i32_w]
  rfl
 refine one_ (i := 4) (N := some 7) #[true, true, true, true, true, false, false, false] rfl rfl (one_of HT_.out (by kernel_rfl)) (by decide) (fun K hK => ?_)
 refine Kd.R_make_step (Kd.int .i64) (w0 := w) w.heap.size 3 (by rfl) (N := 7) rfl 37 (.tmp 6) (.tmp 6) rfl (vars + 1) (by first | rfl | (go_simp; done) | (go_simp; rfl)) (by first | rfl | (go_simp; done) | (go_simp; rfl)) Try.underlying37 (.int .i64 0) 8 info3 rfl (by decide) (by decide) (0 : Int) (ok := fun k => k ≠ gb) (okp := fun _ => False) rfl (fun _ hk => hk.elim) (by have := blk_lt BX.out; omega) (by omega) (by omega) HB1.out (by exact HB1.out.size) ?_
 intro v1 w21 ho hb hg hnew
 obtain ⟨b, cap, ev, hb0, hb1, cells, hcells⟩ := Kd.R_form ho (by simp; omega)
 subst ev
 have n0_ := Aside0.mk (blk_grown BX.out hg (by simp))
 have n1_ := Aside0.mk hb
 have n2_ := Aside0.mk ho
 clear BX HB1 hcells hb hg
 have BX := n0_
 have HB1 := n1_
 clear n0_ n1_ ho hnew
 rw [HV.out] at n2_
 refine hK.out _ _ ⟨(blk_cell BX.out 0).trans rfl, (blk_cell BX.out 1).trans rfl⟩ (fun hHeld => ?_)
 clear hK K
 refine norm_ (a' := ?_) ?_ ?_
 rotate_left
 ·show Act.put _ (some 7) _ = _
  simp only [Act.put, List.setIfInBounds_toArray, List.set_cons_zero, List.set_cons_succ, i64_w, i32_w]
  rfl
 refine pure_ (i := 5) (N := some 8) (v := ?_) (a' := ?_) #[true, true, true, true, true, true, false, false] rfl rfl (any_of HT_.out (by kernel_rfl)) (fun _ _ _ h => h) (Or.inl ⟨by rfl, ?_⟩) ?_ ?_
 rotate_left
 ·intro w'
  go_simp
  with_reducible rfl
 rotate_left
 ·simp only [Act.put, List.setIfInBounds_toArray, List.set_cons_zero, List.set_cons_succ, i64_w, i32_w]
  rfl
 refine one_ (i := 6) (N := some 9) #[true, true, true, true, true, true, true, false] rfl rfl (one_of HT_.out (by kernel_rfl)) (by decide) (fun K hK => ?_)
 refine box_step (by rfl) (N := 9) rfl (cs := #[.int .i64 vars, .slice A n c, .slice (some ⟨b, 0, none⟩) (vars + 1).toNat cap]) (t := 112) ?hr9 ?_
 case hr9 => first | (go_simp; done) | (go_simp; rfl)
 intro g hg w22 hbox hb2
 have n0_ := Aside0.mk (blk_below BX.out hb2)
 have n1_ := Aside0.mk (HB1.out.trans (hb2.mono HB1.out.size))
 have n3_ := Aside0.mk (Kd.R_below n2_.out hb2)
 have n4_ := Aside0.mk (show w22.heap[g]? = some (.cells #[.int .i64 vars, .slice A n c, .slice (some ⟨b, 0, none⟩) vs.length cap] 112 (0, 0)) by rw [HVL.out]; exact hbox)
 have n5_ := Aside0.mk (show w.heap.size ≤ g by rw [hg]; exact HB1.out.size)
 clear BX HB1 n2_ hbox hb2 hg
 refine hK.out _ _ ⟨(blk_cell n0_.out 0).trans rfl, (blk_cell n0_.out 1).trans rfl⟩ (fun hHeld => ?_)
 clear hK K
 refine norm_ (a' := ?_) ?_ ?_
 rotate_left
 ·show Act.put _ (some 9) _ = _
  simp only [Act.put, List.setIfInBounds_toArray, List.set_cons_zero, List.set_cons_succ, i64_w, i32_w]
  rfl
 refine pure_ (i := 7) (N := some 2) (v := ?_) (a' := ?_) #[true, true, true, true, true, true, true, true] rfl rfl (any_of HT_.out (by kernel_rfl)) (fun _ _ _ h => h) (Or.inl ⟨by rfl, ?_⟩) ?_ ?_
 rotate_left
 ·intro w'
  go_simp
  with_reducible rfl
 rotate_left
 ·simp only [Act.put, List.setIfInBounds_toArray, List.set_cons_zero, List.set_cons_succ, i64_w, i32_w]
  rfl
 refine done_ (done_of HT_.out (by kernel_rfl)) ?_
 go_wp2
 go_ret
 exact ⟨g, b, cap, rfl, n1_.out, n5_.out, n4_.out, Kd.R_mono n3_.out (fun _ _ => trivial)⟩
def assumeL : List Int → List Int → Option (List Int)
 | vals, [] => some vals
 | vals, x :: r => if isL vals x = true then none else assumeL (setL vals (-x)) r
def impl_isRup.f (k : Nat) (a0_0 : Int) (l0_1 : List (List Int)) (l1 : List Int) : Option Bool :=
 if decide (0 ≤ a0_0) && decide (a0_0 ≤ 4000) && fitL (a0_0 + 1).toNat l1 && (l0_1.all fun c => fitL (a0_0 + 1).toNat c) then
  (match assumeL (List.replicate (a0_0 + 1).toNat 0) l1 with
   | none => some true
   | some vals => (propL l0_1 k vals []).bind fun t => some (decide (0 ≤ t.2.2)))
 else none
set_option maxHeartbeats 8000000 in
set_option maxRecDepth 100000 in
theorem impl_isRup.calls (k : Nat) (a0_0 : Int) (A0_1 : Option Addr) (c0_1 : Nat) (l0_1 : List (List Int)) (A1 : Option Addr) (c1 : Nat) (l1 : List Int) (r : Bool) (w : World) (hr0_1 : Kd.C (Kd.slice 3 (Kd.int .i64)) w A0_1 l0_1.length l0_1) (hc0_1 : l0_1.length ≤ c0_1) (hr1 : Kd.C (Kd.int .i64) w A1 l1.length l1) (hc1 : l1.length ≤ c1) (h : impl_isRup.f k a0_0 l0_1 l1 = some r) :
  Calls Try.prog 62 #[.agg #[.int .i64 a0_0, .slice A0_1 l0_1.length c0_1], .slice A1 l1.length c1] w fun e w' => e = .returned (.bool r) ∧ Below w.heap.size w w' := by
 unfold impl_isRup.f at h
 by_cases hf : (decide (0 ≤ a0_0) && decide (a0_0 ≤ 4000) && fitL (a0_0 + 1).toNat l1 && (l0_1.all fun c => fitL (a0_0 + 1).toNat c)) = true
 ·rw [if_pos hf] at h
  simp only [Bool.and_eq_true, decide_eq_true_eq] at hf
  obtain ⟨⟨⟨h0, h1⟩, hf1⟩, hf2⟩ := hf
  have hu_Cnf := Try.underlying30
  have hB1 : Below w.heap.size w (w.alloc (.cells #[.int .i64 a0_0, .slice A0_1 l0_1.length c0_1] 30)) := (Below.refl _ _).alloc (Nat.le_refl _) _
  have hnew := newState_any a0_0 A0_1 l0_1.length c0_1 (w.alloc (.cells #[.int .i64 a0_0, .slice A0_1 l0_1.length c0_1] 30)) h0 h1
  have hW : (w.alloc (.cells #[.int .i64 a0_0, .slice A0_1 l0_1.length c0_1] 30)).heap[w.heap.size]? = some (.cells #[.int .i64 a0_0, .slice A0_1 l0_1.length c0_1] 30 (0, 0)) := by
   show (w.heap.push _)[w.heap.size]? = _
   simp
  obtain ⟨vs, hvs⟩ : ∃ vs, List.replicate (a0_0 + 1).toNat (0 : Int) = vs := ⟨_, rfl⟩
  have hvl : vs.length = (a0_0 + 1).toNat := by rw [← hvs]; simp
  rw [hvs] at h hnew
  rw [← hvl] at hf1 hf2
  have hn : vs.length ≤ 4096 := by omega
  have hp : 0 < vs.length := by omega
  clear hvs hvl
  have HC0 := Kd.C_below hr0_1 hB1
  have HC1 := Aside0.mk (Kd.C_below hr1 hB1)
  have hmax : l1.length ≤ 9223372036854775807 := Kd.C_max hr1
  have HCX := Aside0.mk HC0
  clear hr0_1 hr1 HC0
  obtain ⟨W1, hW1, BX, HB1⟩ : ∃ W1, w.alloc (.cells #[.int .i64 a0_0, .slice A0_1 l0_1.length c0_1] 30) = W1 ∧ W1.heap[w.heap.size]? = some (.cells #[.int .i64 a0_0, .slice A0_1 l0_1.length c0_1] 30 (0, 0)) ∧ Below w.heap.size w W1 := ⟨_, rfl, hW, hB1⟩
  rw [hW1] at hnew HC1 HCX
  have HW1 := Aside0.mk hW1
  have HB1' := Aside0.mk HB1
  have hx0 : W1.cell? ⟨w.heap.size, 0, none⟩ = some (.int .i64 a0_0) := (blk_cell BX 0).trans rfl
  have hx1 : W1.cell? ⟨w.heap.size, 1, none⟩ = some (.slice A0_1 l0_1.length c0_1) := (blk_cell BX 1).trans rfl
  have H' : Aside0 ((match assumeL vs (l1.drop 0) with
   | none => some true
   | some vals => (propL l0_1 k vals []).bind fun t => some (decide (0 ≤ t.2.2))) = some r) := ⟨by rw [List.drop_zero]; exact h⟩
  have HF1 := Aside0.mk hf1
  have HF2 := Aside0.mk hf2
  have HN := Aside0.mk hn
  have HP := Aside0.mk hp
  clear h hW hB1 hW1 BX HB1 hf1 hf2 hn hp
  go_enter Try.func62, Try.ntmps62
  go_upto_region 1 with fail
  rw [HW1.out]
  go_wp2_with (go_at_call 67; refine hnew.mono ?_; rintro e w2 ⟨g, b, cv, rfl, hS⟩)
  clear hx0 hx1 hnew HW1
  have HS := Aside0.mk hS
  have HO := Aside0.mk (And.intro hS.old hS.bold)
  clear hS
  go_loopg [14] l1.length (fun gg v14 wr => ∃ (kk : Nat) (va : List Int), v14 = .int .i64 kk ∧ kk ≤ l1.length ∧ l1.length - kk ≤ gg ∧ va.length = vs.length ∧ Aside0 ((match assumeL va (l1.drop kk) with
   | none => some true
   | some vals => (propL l0_1 k vals []).bind fun t => some (decide (0 ≤ t.2.2))) = some r) ∧ Aside0 (ST W1 wr g b a0_0 A0_1 l0_1.length c0_1 cv va))
  case atStart => exact ⟨0, vs, rfl, Nat.zero_le _, by omega, rfl, H', HS⟩
  case round =>
   clear H' HS
   obtain ⟨kk, va, rfl, hk, hg, hva, HA, HS⟩ := hrel
   by_cases hlt : kk < l1.length
   ·have hltz : (kk : Int) < (l1.length : Int) := by omega
    have h0z : (0 : Int) ≤ (kk : Int) := by omega
    obtain ⟨ad, ea, hx⟩ := Kd.at_int HC1.out (kk : Int) h0z hltz
    subst ea
    rw [Int.toNat_natCast] at hx
    have hrd : rd l1 (kk : Int) = l1[kk] := by unfold rd; simp [List.getD, hlt]
    have hA := HA.out
    rw [List.drop_eq_getElem_cons hlt, assumeL, ← hrd] at hA
    have hfx : (rd l1 (kk : Int)).natAbs < vs.length := by rw [hrd]; exact fitL_at HF1.out kk hlt
    have ew : IntKind.i64.wrap ((kk : Int) + 1) = ((kk + 1 : Nat) : Int) := IntWalk.i64_in _ (by omega)
    have hx2 := (HS.out.base.cell (World.block_lt_of_cell? W1 _ hx)).trans hx
    clear hrd HA hx
    generalize rd l1 (kk : Int) = x at hx2 hA hfx
    have ex : IntKind.i64.wrap (-x) = -x := IntWalk.i64_in _ (by have := HN.out; omega)
    have hcall := is_any g va _ cv x wr HS.out.cells.2.2 HS.out.reads (by omega) (by have := HN.out; omega)
    cases ha : isL va x with
    | true =>
     rw [ha, if_pos rfl] at hA
     rw [ha] at hcall
     simp only [Option.some.injEq] at hA
     subst hA
     clear ha hfx
     go_wp2_with (go_at_call 69; refine hcall.mono ?_; rintro e w' ⟨rfl, rfl⟩)
     go_ret
     exact ⟨rfl, HB1'.out.trans (HS.out.base.mono HB1'.out.size)⟩
    | false =>
     rw [ha, if_neg Bool.false_ne_true] at hA
     rw [ha] at hcall
     have H' := Aside0.mk hA
     clear ha hA
     obtain ⟨hcx, hfx2⟩ := Kd.R_celln 0 HS.out.own (x.natAbs : Int) (by omega) (by omega)
     rw [Int.toNat_natCast] at hcx hfx2
     have hxn : (-x).natAbs = x.natAbs := by omega
     have hset := set_any g b va.length cv (-x) _ wr HS.out.cells.2.2 (by omega) (by have := HN.out; omega) (by rw [hxn]; exact hcx) (by rw [hxn]; exact hfx2)
     have HS2 := Aside0.mk (HS.out.set (-x))
     clear hcx hfx2 HS hfx hxn
     generalize wr.setCell ⟨b, (-x).natAbs, none⟩ (.int .i64 (if -x < 0 then -1 else 1)) = wr2 at hset HS2
     go_wp2_with (first
      | (go_at_call 69; refine hcall.mono ?_; rintro e w' ⟨rfl, hq⟩; have hq2 := hq.symm; clear hcall hq; subst hq2)
      | (go_at_call 70; refine hset.mono ?_; rintro e w' ⟨rfl, hq⟩; have hq2 := hq.symm; clear hset hq; subst hq2))
     go_roundg (gk - 1)
     case measure => omega
     case rel => exact ⟨kk + 1, setL va (-x), rfl, by omega, by omega, by rw [setL_length]; exact hva, H', HS2⟩
   ·have hA := HA.out
    obtain rfl : kk = l1.length := by omega
    rw [List.drop_length, assumeL] at hA
    simp only [Option.bind_eq_some_iff, Option.some.injEq] at hA
    obtain ⟨⟨v2, li, at_⟩, hpr, rfl⟩ := hA
    have hprop := propagate_any k g b a0_0 A0_1 c0_1 cv l0_1 va v2 li at_ W1 wr HS.out HCX.out (by rw [hva]; exact HF2.out) (by rw [hva]; exact HN.out) (by rw [hva]; exact HP.out) hpr
    clear HA hpr
    go_wp2_with (go_at_call 71; refine hprop.mono ?_; rintro e w3 ⟨v, rfl, -, -, -, -, hb3⟩)
    go_ret
    exact ⟨rfl, HB1'.out.trans (hb3.mono HB1'.out.size)⟩
 ·rw [if_neg hf] at h
  cases h
def idxL (x : Int) : List Int → Nat → Int
 | [], _ => -1
 | y :: r, i => if x = y then (i : Int) else idxL x r (i + 1)
set_option maxHeartbeats 4000000 in
theorem index_any (x : Int) (A : Option Addr) (c : Nat) (l : List Int) (W : World) (hl : Kd.C (Kd.int .i64) W A l.length l) :
  Calls Try.prog 112 #[.slice A l.length c, .int .i64 x] W fun e W' => e = .returned (.int .i64 (idxL x l 0)) ∧ W' = W := by
 have HL := Aside0.mk hl
 have hmax : l.length ≤ 9223372036854775807 := Kd.C_max hl
 clear hl
 obtain ⟨r, hr⟩ : ∃ r, idxL x l 0 = r := ⟨_, rfl⟩
 rw [hr]
 have H' : Aside0 (idxL x (l.drop 0) 0 = r) := ⟨by rw [List.drop_zero]; exact hr⟩
 clear hr
 go_enter Try.func112, Try.ntmps112
 go_wp2
 go_loopg [8] l.length (fun gg v8 wr => ∃ (kk : Nat), v8 = .int .i64 kk ∧ kk ≤ l.length ∧ l.length - kk ≤ gg ∧ Aside0 (idxL x (l.drop kk) kk = r) ∧ wr = W)
 case atStart => exact ⟨0, rfl, Nat.zero_le _, by omega, H', rfl⟩
 case round =>
  clear H'
  obtain ⟨kk, rfl, hk, hg, HA, rfl⟩ := hrel
  by_cases hlt : kk < l.length
  ·have hltz : (kk : Int) < (l.length : Int) := by omega
   have h0z : (0 : Int) ≤ (kk : Int) := by omega
   obtain ⟨ad, ea, hx⟩ := Kd.at_int HL.out (kk : Int) h0z hltz
   subst ea
   rw [Int.toNat_natCast] at hx
   have hrd : rd l (kk : Int) = l[kk] := by unfold rd; simp [List.getD, hlt]
   have hA := HA.out
   rw [List.drop_eq_getElem_cons hlt, idxL, ← hrd] at hA
   have ew : IntKind.i64.wrap ((kk : Int) + 1) = ((kk + 1 : Nat) : Int) := IntWalk.i64_in _ (by omega)
   clear hrd HA
   generalize rd l (kk : Int) = y at hx hA
   by_cases h0 : x = y
   ·rw [if_pos h0] at hA
    subst h0
    subst hA
    go_wp2
    go_ret
    exact ⟨rfl, rfl⟩
   ·rw [if_neg h0] at hA
    have h02 : (x == y) = false := beq_eq_false_iff_ne.mpr h0
    have HA2 := Aside0.mk hA
    clear hA
    go_wp2
    go_roundg (gk - 1)
    case measure => omega
    case rel => exact ⟨kk + 1, rfl, by omega, by omega, HA2, rfl⟩
  ·have hA := HA.out
   obtain rfl : kk = l.length := by omega
   rw [List.drop_length, idxL] at hA
   subst hA
   go_wp2
   go_ret
   exact ⟨rfl, rfl⟩
set_option maxHeartbeats 800000 in
theorem contains_any (x : Int) (A : Option Addr) (c : Nat) (l : List Int) (W : World) (hl : Kd.C (Kd.int .i64) W A l.length l) :
  Calls Try.prog 84 #[.slice A l.length c, .int .i64 x] W fun e W' => e = .returned (.bool (decide (0 ≤ idxL x l 0))) ∧ W' = W := by
 have hcall := index_any x A c l W hl
 clear hl
 generalize idxL x l 0 = r at hcall ⊢
 go_enter Try.func84, Try.ntmps84
 go_wp2_with (go_at_call 112; refine hcall.mono ?_; rintro e w' ⟨rfl, rfl⟩)
 go_ret
 exact ⟨rfl, rfl⟩
set_option maxHeartbeats 800000 in
set_option maxRecDepth 100000 in
theorem grow_any (n : Int) (w : World) (h0 : 0 < n) (h1 : n ≤ 1099511627776) :
  Calls Try.prog 117 #[.slice none 0 0, .int .i64 n] w fun e W' => ∃ v, e = .returned v ∧ Kd.R (Kd.int .i64) 3 W' w.heap.size (fun _ => True) v [] ∧ Below w.heap.size w W' := by
 have e1 : IntKind.i64.wrap n = n := IntWalk.i64_in _ (by omega)
 have hh : ¬ n < 0 := by omega
 go_enter Try.func117, Try.ntmps117
 go_wp2_with ((with_reducible refine gate_builtin (b := .append) (xs := #[.tmp 20, .tmp 21]) rfl ?_); at_builtin; refine Kd.R_append_zeros (Kd.int .i64) (w0 := w) w.heap.size rfl (.tmp 20) (.tmp 21) 37 3 3 (.int .i64 0) 8 rfl Try.underlying37 (k := .i64) Try.underlying3 info3 rfl (by decide) (by omega) (.slice none 0 0) [] (0 : Int) (kx := .i64) n (fun _ => True) rfl rfl rfl (fun _ _ => trivial) (Kd.R_nil _ _ _ _ _) (by omega) (Below.refl _ _) (Nat.le_refl _) (by simp; omega) ?_; intro v1 w1 ho hb hg hat; obtain ⟨A1, c1, e1⟩ := Kd.R_slice ho; subst e1; have HO := Aside0.mk (Kd.R_take ho (m := 0) (Nat.zero_le _)); have HB := Aside0.mk hb; clear ho hb hg hat)
 go_ret
 exact ⟨_, rfl, HO.out, HB.out⟩
theorem grow_all (n : Int) (w : World) (h0 : 0 ≤ n) (h1 : n ≤ 1099511627776) :
  Calls Try.prog 117 #[.slice none 0 0, .int .i64 n] w fun e W' => ∃ v, e = .returned v ∧ Kd.R (Kd.int .i64) 3 W' w.heap.size (fun _ => True) v [] ∧ Below w.heap.size w W' := by
 by_cases h : 0 < n
 ·exact grow_any n w h h1
 obtain rfl : n = 0 := by omega
 go_enter Try.func117, Try.ntmps117
 go_wp2
 go_ret
 exact ⟨_, rfl, Kd.R_nil _ _ _ _ _, Below.refl _ _⟩
theorem flat_take (ls : List (List Int)) (i : Nat) (h : i < ls.length) : (ls.take (i + 1)).flatten = (ls.take i).flatten ++ ls.getD i [] := by
 rw [List.take_succ_eq_append_getElem h, List.flatten_append, List.getD_eq_getElem?_getD, List.getElem?_eq_getElem h]
 simp
theorem flat_len (ls : List (List Int)) : ∀ i : Nat, (ls.take i).flatten.length ≤ ls.flatten.length := fun i => by
 conv => rhs; rw [← List.take_append_drop i ls, List.flatten_append, List.length_append]
 exact Nat.le_add_right _ _
set_option maxHeartbeats 1600000 in
set_option maxRecDepth 100000 in
theorem concat_all (A : Option Addr) (c : Nat) (ls : List (List Int)) (w : World) (hC : Kd.C (Kd.slice 3 (Kd.int .i64)) w A ls.length ls) (h1 : ls.flatten.length ≤ 1073741824) :
  Calls Try.prog 86 #[.slice A ls.length c] w fun e W' => ∃ v, e = .returned v ∧ Kd.R (Kd.int .i64) 3 W' w.heap.size (fun _ => True) v ls.flatten ∧ Below w.heap.size w W' := by
 have HC := Aside0.mk hC
 have hmax : ls.length ≤ 9223372036854775807 := Kd.C_max hC
 have H1 := Aside0.mk h1
 clear hC h1
 go_enter Try.func86, Try.ntmps86
 go_wp2
 go_loopg [3, 11] ls.length (fun gg v3 v11 wr => ∃ (kk : Nat), v3 = .int .i64 ((ls.take kk).flatten.length : Int) ∧ v11 = .int .i64 kk ∧ kk ≤ ls.length ∧ ls.length - kk ≤ gg ∧ w = wr)
 case atStart => exact ⟨0, by simp, rfl, Nat.zero_le _, by omega, rfl⟩
 case round =>
  obtain ⟨kk, rfl, rfl, hk, hg, rfl⟩ := hrel
  by_cases hlt : kk < ls.length
  ·have hltz : (kk : Int) < (ls.length : Int) := by omega
   have h0z : (0 : Int) ≤ (kk : Int) := by omega
   obtain ⟨ad, A2, c2, ea, hx, -, -⟩ := at_L1 HC.out (kk : Int) h0z hltz
   subst ea
   rw [Int.toNat_natCast] at hx
   have hrd : rd_L1 ls (kk : Int) = ls.getD kk [] := by unfold rd_L1; rw [Int.toNat_natCast]
   rw [hrd] at hx
   have hf := flat_take ls kk hlt
   have hl1 := flat_len ls (kk + 1)
   have hl2 : (ls.take (kk + 1)).flatten.length = (ls.take kk).flatten.length + (ls.getD kk []).length := by rw [hf, List.length_append]
   have hb := H1.out
   obtain ⟨m, hm⟩ : ∃ m, (ls.take kk).flatten.length = m := ⟨_, rfl⟩
   obtain ⟨p, hp⟩ : ∃ p, (ls.getD kk []).length = p := ⟨_, rfl⟩
   rw [hm, hp] at hl2
   rw [hp] at hx
   rw [hm]
   have HL2 := Aside0.mk hl2
   have ew : IntKind.i64.wrap ((kk : Int) + 1) = ((kk + 1 : Nat) : Int) := IntWalk.i64_in _ (by omega)
   have ew2 : IntKind.i64.wrap ((m : Int) + (p : Int)) = ((m + p : Nat) : Int) := IntWalk.i64_in _ (by omega)
   have hnn : ¬ ((m + p : Nat) : Int) < 0 := by omega
   clear hf hl1 hl2 hb hm hp hrd
   go_wp2
   go_roundg (gk - 1)
   case measure => omega
   case rel => exact ⟨kk + 1, by rw [HL2.out, Int.natCast_add], rfl, by omega, by omega, rfl⟩
  ·obtain rfl : kk = ls.length := by omega
   rw [List.take_length]
   have hgr := grow_all (ls.flatten.length : Int) w (by omega) (by have := H1.out; omega)
   obtain ⟨m, hm⟩ : ∃ m, ls.flatten.length = m := ⟨_, rfl⟩
   rw [hm] at hgr
   rw [hm]
   go_wp2_with (go_at_call 117; refine hgr.mono ?_; rintro e w2 ⟨v, rfl, hR, hb⟩; clear hgr; have HR := Aside0.mk hR; have HB := Aside0.mk hb; clear hR hb)
   go_loopg [6, 27] ls.length (fun gg v6 v27 wr2 => ∃ (kk : Nat), v27 = .int .i64 kk ∧ kk ≤ ls.length ∧ ls.length - kk ≤ gg ∧ Aside0 (Kd.R (Kd.int .i64) 3 wr2 w.heap.size (fun _ => True) v6 (ls.take kk).flatten) ∧ Aside0 (Below w.heap.size w wr2))
   case atStart => exact ⟨0, rfl, Nat.zero_le _, by omega, by simpa using HR, HB⟩
   case round =>
    clear HR HB
    obtain ⟨kk, rfl, hk, hg, HR, HB⟩ := hrel
    by_cases hlt2 : kk < ls.length
    ·have hltz : (kk : Int) < (ls.length : Int) := by omega
     have h0z : (0 : Int) ≤ (kk : Int) := by omega
     obtain ⟨ad, A2, c2, ea, hx, hlc, hC2⟩ := at_L1 HC.out (kk : Int) h0z hltz
     subst ea
     rw [Int.toNat_natCast] at hx
     have hrd : rd_L1 ls (kk : Int) = ls.getD kk [] := by unfold rd_L1; rw [Int.toNat_natCast]
     have HF := Aside0.mk (flat_take ls kk hlt2)
     have HL := Aside0.mk (flat_len ls (kk + 1))
     rw [hrd] at hx hC2
     have HC2 := Aside0.mk (Kd.C_below hC2 HB.out)
     have hx2 := (HB.out.cell (World.block_lt_of_cell? w _ hx)).trans hx
     obtain ⟨q, hq⟩ : ∃ q, ls.getD kk [] = q := ⟨_, rfl⟩
     rw [hq] at HF HC2 hx2
     have ew : IntKind.i64.wrap ((kk : Int) + 1) = ((kk + 1 : Nat) : Int) := IntWalk.i64_in _ (by omega)
     clear hx hC2 hrd hq hlc
     go_wp2_with ((with_reducible refine gate_builtin (b := .append) (xs := #[.tmp 31, .tmp 32]) rfl ?_); at_builtin; refine Kd.R_append_rows (Kd.int .i64) (w0 := w) w.heap.size rfl (.tmp 31) (.tmp 32) 37 3 (.int .i64 0) 8 rfl Try.underlying37 info3 rfl (by decide) (by omega) _ (ls.take kk).flatten q _ _ _ (fun _ => True) (fun _ => False) rfl rfl ?aO ?aR (fun _ _ h => h) (fun _ h => h.elim) ?aF ?aB ?aS ?aL ?_; (case aR => exact HC2.out); (case aB => exact HB.out); (case aF => exact (fun _ _ => trivial)); (case aO => exact HR.out); (case aS => exact below_size HB.out); (case aL => have h1_ := HL.out; have h2_ := H1.out; rw [HF.out, List.length_append] at h1_; omega); intro v1 w7 ho hb hg2 hat; rw [← HF.out] at ho; have n0_ := Aside0.mk ho; have n1_ := Aside0.mk hb; clear ho hb hg2 hat HR HB)
     go_roundg (gk - 1)
     case measure => omega
     case rel => exact ⟨kk + 1, rfl, by omega, by omega, n0_, n1_⟩
    ·obtain rfl : kk = ls.length := by omega
     have hr := HR.out
     rw [List.take_length] at hr
     go_wp2
     go_ret
     exact ⟨_, rfl, hr, HB.out⟩
theorem concat_any (A : Option Addr) (c : Nat) (ls : List (List Int)) (w : World) (hC : Kd.C (Kd.slice 3 (Kd.int .i64)) w A ls.length ls) (h0 : 0 < ls.flatten.length) (h1 : ls.flatten.length ≤ 1073741824) :
  Calls Try.prog 86 #[.slice A ls.length c] w fun e W' => ∃ v, e = .returned v ∧ Kd.R (Kd.int .i64) 3 W' w.heap.size (fun _ => True) v ls.flatten ∧ Below w.heap.size w W' :=
 concat_all A c ls w hC h1
set_option maxHeartbeats 4000000 in
set_option maxRecDepth 100000 in
theorem cloneI_any (A : Option Addr) (c : Nat) (l : List Int) (W : World) (hl : Kd.C (Kd.int .i64) W A l.length l) (hp : 0 < l.length) (hn : l.length ≤ 4096) :
  Calls Try.prog 113 #[.slice A l.length c] W fun e W' => ∃ v, e = .returned v ∧ Kd.R (Kd.int .i64) 3 W' W.heap.size (fun _ => True) v l ∧ Below W.heap.size W W' := by
 obtain ⟨ad, ea, -⟩ := Kd.at_int hl 0 (by omega) (by omega)
 subst ea
 have HL := Aside0.mk hl
 have hq := fun (w : World) => Lib.run_eql_slice_nil w 37 3 (some ad) l.length c 0 0 Try.underlying37
 clear hl
 go_enter Try.func113, Try.ntmps113
 go_wp2_with (first
  | ((with_reducible refine gate_dst (N := 5) rfl ?_); refine Kd.R_lit (Kd.int .i64) _ 3 ?hg (N := 5) ?hd (xs := ([] : List Int)) (inner := []) (ok := fun _ => True) (okp := fun _ => True) ?hr ?hp (fun _ hk => hk) trivial (Below.refl _ _) (Nat.le_refl _) (by simp) ?_; (case hd => rfl); (case hg => rfl); (case hr => first | (go_simp; done) | (go_simp; rfl)); (case hp => exact (Reps.none _ _)); intro v1 w3 ho hb hg_ hnew_; clear hg_ hnew_; have HR := Aside0.mk ho; have HB := Aside0.mk hb; clear ho hb)
  | ((with_reducible refine gate_builtin (b := .append) (xs := #[.tmp 5, .tmp 6]) rfl ?_); at_builtin; refine Kd.R_append_rows (Kd.int .i64) (w0 := W) W.heap.size rfl (.tmp 5) (.tmp 6) 37 3 (.int .i64 0) 8 rfl Try.underlying37 info3 rfl (by decide) (by omega) v1 [] l _ _ _ (fun _ => True) (fun _ => False) rfl rfl ?aO ?aR (fun _ _ h => h) (fun _ h => h.elim) ?aF ?aB ?aS ?aL ?_; (case aR => exact Kd.C_below HL.out HB.out); (case aB => exact HB.out); (case aF => exact (fun _ _ => trivial)); (case aO => exact HR.out); (case aS => exact below_size HB.out); (case aL => simp; omega); intro v2 w7 ho hb hg hat; have HR2 := Aside0.mk ho; have HB2 := Aside0.mk hb; clear ho hb hg hat))
 go_ret
 exact ⟨v2, rfl, HR2.out, HB2.out⟩
end Go.Proofs.Ytelfahcjeldliaa.PFnExactCheckProof
end
section
namespace Go.Proofs.Ytelfahcjeldliaa.PFnExactCheckProof
open Go.RowKit Go.Proofs.YtelfahcjeldliaaW.PrintWords Go.Proofs.YtelfahcjeldliaaW.PrintLast Go.Proofs.YtelfahcjeldliaaW.PrintMore
attribute [local go_sem] max2_int min2_int max_two min_two max_three min_three max_four min_four   -- for this text's walks alone
set_option linter.unusedVariables false
set_option linter.unusedSimpArgs false
theorem without_fn (x y : Int) (B : Nat) (W : World) (hB : W.cell? ⟨B, 0, none⟩ = some (.int .i64 x)) :
  Calls Try.prog 119 #[.int .i64 y, .pointer (some ⟨B, 0, none⟩)] W fun e W' => e = .returned (.bool (y == x)) ∧ W' = W := by
 go_enter Try.func119, Try.ntmps119
 go_wp2
 go_ret
 exact ⟨rfl, rfl⟩
set_option maxHeartbeats 1600000 in
theorem indexW_any (x : Int) (B : Nat) (A : Option Addr) (c : Nat) (l : List Int) (W : World) (hB : W.cell? ⟨B, 0, none⟩ = some (.int .i64 x)) (hl : Kd.C (Kd.int .i64) W A l.length l) :
  Calls Try.prog 126 #[.slice A l.length c, .func (.func 119) #[] #[.pointer (some ⟨B, 0, none⟩)]] W fun e W' => e = .returned (.int .i64 (idxL x l 0)) ∧ W' = W := by
 have HL := Aside0.mk hl
 have HX := Aside0.mk hB
 have hmax : l.length ≤ 9223372036854775807 := Kd.C_max hl
 clear hl hB
 obtain ⟨r, hr⟩ : ∃ r, idxL x l 0 = r := ⟨_, rfl⟩
 rw [hr]
 have H' : Aside0 (idxL x (l.drop 0) 0 = r) := ⟨by rw [List.drop_zero]; exact hr⟩
 clear hr
 go_enter Try.func126, Try.ntmps126
 go_wp2
 go_loopg [8] l.length (fun gg v8 wr => ∃ (kk : Nat), v8 = .int .i64 kk ∧ kk ≤ l.length ∧ l.length - kk ≤ gg ∧ Aside0 (idxL x (l.drop kk) kk = r) ∧ wr = W)
 case atStart => exact ⟨0, rfl, Nat.zero_le _, by omega, H', rfl⟩
 case round =>
  clear H'
  obtain ⟨kk, rfl, hk, hg, HA, rfl⟩ := hrel
  by_cases hlt : kk < l.length
  ·have hltz : (kk : Int) < (l.length : Int) := by omega
   have h0z : (0 : Int) ≤ (kk : Int) := by omega
   obtain ⟨ad, ea, hx⟩ := Kd.at_int HL.out (kk : Int) h0z hltz
   subst ea
   rw [Int.toNat_natCast] at hx
   have hrd : rd l (kk : Int) = l[kk] := by unfold rd; simp [List.getD, hlt]
   have hA := HA.out
   rw [List.drop_eq_getElem_cons hlt, idxL, ← hrd] at hA
   have ew : IntKind.i64.wrap ((kk : Int) + 1) = ((kk + 1 : Nat) : Int) := IntWalk.i64_in _ (by omega)
   clear hrd HA
   generalize rd l (kk : Int) = y at hx hA
   have hfn := without_fn x y B wr HX.out
   by_cases h0 : x = y
   ·rw [if_pos h0] at hA
    subst h0
    subst hA
    have he : (x == x) = true := by simp
    rw [he] at hfn
    go_wp2_with (go_at_call 119; refine hfn.mono ?_; rintro e w' ⟨rfl, rfl⟩)
    go_ret
    exact ⟨rfl, rfl⟩
   ·rw [if_neg h0] at hA
    have he : (y == x) = false := beq_eq_false_iff_ne.mpr (fun e => h0 e.symm)
    rw [he] at hfn
    have HA2 := Aside0.mk hA
    clear hA
    go_wp2_with (go_at_call 119; refine hfn.mono ?_; rintro e w' ⟨rfl, rfl⟩)
    go_roundg (gk - 1)
    case measure => omega
    case rel => exact ⟨kk + 1, rfl, by omega, by omega, HA2, rfl⟩
  ·have hA := HA.out
   obtain rfl : kk = l.length := by omega
   rw [List.drop_length, idxL] at hA
   subst hA
   go_wp2
   go_ret
   exact ⟨rfl, rfl⟩
theorem idxL_at (x : Int) : ∀ (l : List Int) (i : Nat), 0 ≤ idxL x l i → ∃ j : Nat, idxL x l i = ((i + j : Nat) : Int) ∧ j < l.length ∧ (l.take (j + 1)).filter (fun y => y != x) = l.take j
 | [], i, h => by rw [idxL] at h; omega
 | y :: r, i, h => by
  rw [idxL] at h ⊢
  by_cases hy : x = y
  ·rw [if_pos hy]
   exact ⟨0, by omega, by simp, by subst hy; simp⟩
  ·rw [if_neg hy] at h ⊢
   obtain ⟨j, h1, h2, h3⟩ := idxL_at x r (i + 1) h
   refine ⟨j + 1, by omega, by simpa using h2, ?_⟩
   have hne : (y != x) = true := bne_iff_ne.2 (fun e => hy e.symm)
   rw [List.take_succ_cons, List.filter_cons, if_pos hne, h3, List.take_succ_cons]
theorem R_clear {base b n cap : Nat} {W : World} : ∀ (m o : Nat) (ys : List Int) (wr : World), Kd.R (Kd.int .i64) 3 wr base (fun _ => True) (.slice (some ⟨b, 0, none⟩) n cap) ys → o + m ≤ ys.length → Below b W wr → ∃ zs : List Int, zs.length = ys.length ∧ zs.take o = ys.take o ∧ Kd.R (Kd.int .i64) 3 (wr.setCells b o (List.replicate m (.int .i64 0))) base (fun _ => True) (.slice (some ⟨b, 0, none⟩) n cap) zs ∧ Below b W (wr.setCells b o (List.replicate m (.int .i64 0)))
 | 0, o, ys, wr, hR, _, hB => ⟨ys, rfl, rfl, hR, hB⟩
 | m + 1, o, ys, wr, hR, hm, hB => by
  have h1 := (Kd.R_putg hR (o : Int) 0).1
  rw [Int.toNat_natCast] at h1
  obtain ⟨zs, z1, z2, z3, z4⟩ := R_clear m (o + 1) (ys.set o 0) (wr.setCell ⟨b, o, none⟩ (.int .i64 0)) h1 (by simp; omega) (hB.setCell (Nat.le_refl _) _)
  refine ⟨zs, by simpa using z1, ?_, z3, z4⟩
  have h2 := congrArg (List.take o) z2
  rw [List.take_take, List.take_take, Nat.min_eq_left (by omega)] at h2
  rw [h2, List.take_set, List.set_eq_of_length_le (by simp; omega)]
theorem keep_cells {W : World} {b : Nat} : ∀ (vs : List Value) (o : Nat) (W2 : World), KeepBut W W2 b none → KeepBut W (W2.setCells b o vs) b none
 | [], _, _, h => h
 | v :: r, o, W2, h => keep_cells r (o + 1) _ (KeepBut.set_ h o v)
set_option maxHeartbeats 1600000 in
set_option maxRecDepth 100000 in
theorem delW_any (x : Int) (B b cap base : Nat) (l : List Int) (W : World) (hB : W.cell? ⟨B, 0, none⟩ = some (.int .i64 x)) (hBb : B ≠ b) (hR : Kd.R (Kd.int .i64) 3 W base (fun _ => True) (.slice (some ⟨b, 0, none⟩) l.length cap) l) (hx : 0 ≤ idxL x l 0) (hn : l.length ≤ 4096) :
  Calls Try.prog 118 #[.slice (some ⟨b, 0, none⟩) l.length cap, .func (.func 119) #[] #[.pointer (some ⟨B, 0, none⟩)]] W fun e W' => e = .returned (.slice (some ⟨b, 0, none⟩) (l.filter fun y => y != x).length cap) ∧ Kd.R (Kd.int .i64) 3 W' base (fun _ => True) (.slice (some ⟨b, 0, none⟩) (l.filter fun y => y != x).length cap) (l.filter fun y => y != x) ∧ Below b W W' ∧ KeepBut W W' b none := by
 obtain ⟨-, hcap, hC⟩ := Kd.R_reads' hR
 have hidx := indexW_any x B _ cap l W hB hC
 obtain ⟨j, hj1, hj2, hj3⟩ := idxL_at x l 0 hx
 rw [hj1, Nat.zero_add] at hidx
 have HR := Aside0.mk hR
 have HX := Aside0.mk hB
 have HB := Aside0.mk (Below.refl b W)
 have HK := Aside0.mk (KeepBut.refl W b none)
 have HY1 : Aside0 (l.take j = (l.take (j + 1)).filter fun y => y != x) := ⟨hj3.symm⟩
 obtain ⟨res, hres⟩ : ∃ res, (l.filter fun y => y != x) = res := ⟨_, rfl⟩
 rw [hres]
 have HRES := Aside0.mk hres
 have ewj : IntKind.i64.wrap ((j : Int) + 1) = ((j + 1 : Nat) : Int) := IntWalk.i64_in _ (by omega)
 have hne1 : ((j : Int) == -1) = false := beq_eq_false_iff_ne.mpr (by omega)
 clear hR hB hC hx hj1 hj3 hres
 go_enter Try.func118, Try.ntmps118
 go_wp2_with (go_at_call 126; refine hidx.mono ?_; rintro e w' ⟨rfl, hq⟩; have hq2 := hq.symm; clear hq hidx; subst hq2)
 go_loopg [5, 6] l.length (fun gg v5 v6 wr => ∃ (ii kk : Nat) (ys : List Int), v5 = .int .i64 ii ∧ v6 = .int .i64 kk ∧ ii < kk ∧ kk ≤ l.length ∧ l.length - kk ≤ gg ∧ ys.length = l.length ∧ Aside0 (ys.take ii = (l.take kk).filter fun y => y != x) ∧ Aside0 (ys.drop kk = l.drop kk) ∧ Aside0 (Kd.R (Kd.int .i64) 3 wr base (fun _ => True) (.slice (some ⟨b, 0, none⟩) l.length cap) ys) ∧ Aside0 (Below b W wr) ∧ Aside0 (KeepBut W wr b none))
 case atStart => exact ⟨j, j + 1, l, rfl, rfl, by omega, by omega, by omega, rfl, HY1, ⟨rfl⟩, HR, HB, HK⟩
 case round =>
  clear HY1 HR HB HK ewj
  obtain ⟨ii, kk, ys, rfl, rfl, hik, hk, hg, hly, HY1, HY2, HR, HB, HK⟩ := hrel
  by_cases hlt : kk < l.length
  ·have hltz : (kk : Int) < (l.length : Int) := by omega
   have h0z : (0 : Int) ≤ (kk : Int) := by omega
   have hiz : (ii : Int) < (l.length : Int) := by omega
   have hi0 : (0 : Int) ≤ (ii : Int) := by omega
   obtain ⟨hcx, hfx⟩ := Kd.R_celln 0 HR.out (kk : Int) h0z hltz
   obtain ⟨hci, hfi⟩ := Kd.R_celln 0 HR.out (ii : Int) hi0 hiz
   rw [Int.toNat_natCast] at hcx hci hfi
   have hyk : rdOf 0 ys (kk : Int) = l[kk] := by
    have h1 := congrArg (fun z : List Int => z[0]?) HY2.out
    simp only [List.getElem?_drop, Nat.add_zero] at h1
    rw [List.getElem?_eq_getElem hlt] at h1
    unfold rdOf
    rw [Int.toNat_natCast, List.getD_eq_getElem?_getD, h1]
    rfl
   rw [hyk] at hcx
   have ew : IntKind.i64.wrap ((kk : Int) + 1) = ((kk + 1 : Nat) : Int) := IntWalk.i64_in _ (by omega)
   have ewi : IntKind.i64.wrap ((ii : Int) + 1) = ((ii + 1 : Nat) : Int) := IntWalk.i64_in _ (by omega)
   have hBx := (HK.out.2 B (World.block_lt_of_cell? W _ HX.out) hBb (by simp))
   have hcB := (World.cell?_of_block (w := W) (a := ⟨B, 0, none⟩) hBx).trans HX.out
   have hfn := without_fn x l[kk] B wr hcB
   have hd2 : ys.drop (kk + 1) = l.drop (kk + 1) := by
    have h1 := congrArg (List.drop 1) HY2.out
    rwa [List.drop_drop, List.drop_drop] at h1
   have htk : (l.take (kk + 1)).filter (fun y => y != x) = ys.take ii ++ (if (l[kk] != x) = true then [l[kk]] else []) := by
    rw [List.take_succ_eq_append_getElem hlt, List.filter_append, ← HY1.out, List.filter_cons, List.filter_nil]
   clear hfx hyk hBx hcB
   generalize l[kk] = y at hcx hfn htk
   by_cases hyx : y = x
   ·subst hyx
    have he : (y == y) = true := by simp
    have he2 : (y != y) = false := by simp
    rw [he] at hfn
    rw [he2, if_neg Bool.false_ne_true, List.append_nil] at htk
    have HT := Aside0.mk htk.symm
    have HD := Aside0.mk hd2
    clear htk hd2 HY1 HY2
    go_wp2_with (go_at_call 119; refine hfn.mono ?_; rintro e w' ⟨rfl, hq⟩; have hq2 := hq.symm; clear hq hfn; subst hq2)
    go_roundg (gk - 1)
    case measure => omega
    case rel => exact ⟨ii, kk + 1, ys, rfl, rfl, by omega, by omega, by omega, hly, HT, HD, HR, HB, HK⟩
   ·have he : (y == x) = false := beq_eq_false_iff_ne.mpr hyx
    have he2 : (y != x) = true := bne_iff_ne.mpr hyx
    rw [he] at hfn
    rw [he2, if_pos rfl] at htk
    have hput := (Kd.R_putg HR.out (ii : Int) y).1
    rw [Int.toNat_natCast] at hput
    have HR2 := Aside0.mk hput
    have HB2 := Aside0.mk (HB.out.setCell (p := ⟨b, ii, none⟩) (Nat.le_refl _) (.int .i64 y))
    have HK2 := Aside0.mk (KeepBut.set_ HK.out ii (.int .i64 y))
    have HT : Aside0 ((ys.set ii y).take (ii + 1) = (l.take (kk + 1)).filter fun y => y != x) := ⟨by
     rw [htk, List.take_succ_eq_append_getElem (by simp; omega), List.getElem_set_self, List.take_set, List.set_eq_of_length_le (by rw [List.length_take]; exact Nat.min_le_left _ _)]⟩
    have HD : Aside0 ((ys.set ii y).drop (kk + 1) = l.drop (kk + 1)) := ⟨by rw [← hd2, List.drop_set_of_lt (by omega)]⟩
    have hls : (ys.set ii y).length = l.length := by rw [List.length_set]; exact hly
    clear htk hd2 HY1 HY2 hput HR HB HK
    go_wp2_with (go_at_call 119; refine hfn.mono ?_; rintro e w' ⟨rfl, hq⟩; have hq2 := hq.symm; clear hq hfn; subst hq2)
    go_roundg (gk - 1)
    case measure => omega
    case rel => exact ⟨ii + 1, kk + 1, _, rfl, rfl, by omega, by omega, by omega, hls, HT, HD, HR2, HB2, HK2⟩
  ·obtain rfl : kk = l.length := by omega
   have hy := HY1.out
   rw [List.take_length, HRES.out] at hy
   have hrl : res.length = ii := by rw [← hy, List.length_take]; omega
   have hcne : ¬ cap = ii := by omega
   have hcl : ∀ ty, (Builtin.clear_ #[37] ty #[.slice (some ⟨b, ii, none⟩) (l.length - ii) (cap - ii)]).run Try.prog wr = .ok (.tuple #[]) (wr.setCells b ii (List.replicate (l.length - ii) (.int .i64 0))) := fun ty =>
    Lib.run_clear_slice wr 37 3 ty (.int .i64 0) Try.underlying37 (fun w => by kernel_rfl) rfl rfl b ii (l.length - ii) (cap - ii) (by omega)
     (fun j hj => by
      have := (Kd.R_celln 0 HR.out ((ii + j : Nat) : Int) (by omega) (by omega)).1
      rw [Int.toNat_natCast] at this
      rw [this]
      rfl)
     (fun j hj => by
      have := (Kd.R_celln 0 HR.out ((ii + j : Nat) : Int) (by omega) (by omega)).2
      rwa [Int.toNat_natCast] at this)
   obtain ⟨zs, z1, z2, z3, z4⟩ := R_clear (W := W) (l.length - ii) ii ys wr HR.out (by omega) HB.out
   have HZ := Aside0.mk (show Kd.R (Kd.int .i64) 3 (wr.setCells b ii (List.replicate (l.length - ii) (.int .i64 0))) base (fun _ => True) (.slice (some ⟨b, 0, none⟩) ii cap) res by
    have := Kd.R_take z3 (m := ii) (by omega)
    rwa [z2, hy] at this)
   have HZB := Aside0.mk z4
   have HZK := Aside0.mk (keep_cells (List.replicate (l.length - ii) (.int .i64 0)) ii wr HK.out)
   have hii0 : (0 : Int) ≤ (ii : Int) := by omega
   have hii1 : (ii : Int) ≤ (l.length : Int) := by omega
   have hii2 : (ii : Int) ≤ (cap : Int) := by omega
   clear z1 z2 z3 z4 hy HR HB HK HY1 HY2
   subst hrl
   go_wp2_with (simp only [hcl])
   go_ret
   exact ⟨rfl, HZ.out, HZB.out, HZK.out⟩
set_option maxHeartbeats 800000 in
set_option maxRecDepth 100000 in
theorem without_any (x : Int) (A : Option Addr) (c : Nat) (l : List Int) (w : World) (hC : Kd.C (Kd.int .i64) w A l.length l) (hx : 0 ≤ idxL x l 0) (hn : l.length ≤ 4096) :
  Calls Try.prog 87 #[.slice A l.length c, .int .i64 x] w fun e W' => ∃ v, e = .returned v ∧ Kd.R (Kd.int .i64) 3 W' w.heap.size (fun _ => True) v (l.filter fun y => y != x) ∧ Below w.heap.size w W' := by
 have hp : 0 < l.length := by
  rcases Nat.eq_zero_or_pos l.length with h | h
  ·rw [List.eq_nil_of_length_eq_zero h] at hx
   rw [idxL] at hx
   omega
  ·exact h
 have hb1 : Below w.heap.size w (w.alloc (.cells #[.int .i64 x] 3)) := (Below.refl _ _).alloc (Nat.le_refl _) _
 have hW : (w.alloc (.cells #[.int .i64 x] 3)).heap[w.heap.size]? = some (.cells #[.int .i64 x] 3 (0, 0)) := by
  show (w.heap.push _)[w.heap.size]? = _
  simp
 obtain ⟨W1, hW1, BX, HB1⟩ : ∃ W1, w.alloc (.cells #[.int .i64 x] 3) = W1 ∧ W1.heap[w.heap.size]? = some (.cells #[.int .i64 x] 3 (0, 0)) ∧ Below w.heap.size w W1 := ⟨_, rfl, hW, hb1⟩
 have hcl := cloneI_any A c l W1 (Kd.C_below hC HB1) hp hn
 have HW1 := Aside0.mk hW1
 have HBX := Aside0.mk BX
 have HB := Aside0.mk HB1
 clear hb1 hW hW1 BX HB1 hC
 go_enter Try.func87, Try.ntmps87
 go_upto_region 1 with fail
 rw [HW1.out]
 go_wp2_with (first
  | (go_at_call 113; refine hcl.mono ?_; rintro e w2 ⟨v, rfl, hR, hb⟩; clear hcl; obtain ⟨b, cap, ev, hb0, -, -, -⟩ := Kd.R_form hR hp; subst ev; have hbx := blk_below HBX.out hb; have hdel := delW_any x w.heap.size b cap w.heap.size l w2 ((blk_cell hbx 0).trans rfl) (by have := blk_lt HBX.out; omega) (Kd.R_lower hR HB.out.size) hx hn; have HB2 := Aside0.mk (HB.out.trans (hb.mono HB.out.size)); have HLE := Aside0.mk (Nat.le_trans HB.out.size hb0); clear hR hb hb0 hbx)
  | (go_at_call 118; refine hdel.mono ?_; rintro e w3 ⟨rfl, hR3, hb3, -⟩; clear hdel))
 go_ret
 exact ⟨_, rfl, hR3, HB2.out.trans (hb3.mono HLE.out)⟩
def ratfn_T : Bool × List (List Nat × List Nat) := (true, [([], []), ([], []), ([1], [1]), ([2], [2]), ([3], [3]), ([0, 4], [0, 4]), ([5, 5], [5]), ([6], [6]), ([6], [6]), ([6], [6]), ([6], [6]), ([10, 6], [6, 10]), ([11, 6], [6, 11]), ([12, 6], [6, 12]), ([9, 13, 6, 6], [6, 9, 13]), ([8, 14, 6], [6, 8, 14]), ([15, 14, 6], [6, 15]), ([7, 16, 16, 6], [6, 7, 16]), ([17, 6], [6, 17]), ([6, 18], [6, 18]), ([19, 17, 0, 1, 2, 3, 4, 5, 6, 7, 8, 9, 10, 11, 12, 13, 14, 15, 16, 17, 18, 19], [19])])
def ratfn_B : List Nat := [0, 0, 2, 6, 14, 31, 63, 127, 127, 127, 127, 1151, 3199, 7295, 15999, 32639, 65407, 131071, 262143, 524287, 1048575]
theorem ratfn_tab : rtab .any (opsOf Try.f108 1) = ratfn_T := by kernel_rfl
theorem ratfn_bits : waitsOk ratfn_T.2 ratfn_B = true := by kernel_rfl
def ratB (k : Nat) (a : Int) (l : List (List Int)) (cl d : List Int) : Option Bool := if 0 ≤ idxL (-(rd cl 0)) d 0 then (impl_isRup.f k a l (cl ++ d.filter fun y => y != -(rd cl 0))).bind fun b => some (!b) else some false
theorem foot_K {W : World} {A : Option Addr} {c : Nat} {l : List Int} (h : Kd.C (Kd.int .i64) W A l.length l) (hc : l.length ≤ c) : Kd.FK (Kd.slice 3 (Kd.int .i64)) W (fun k => k < W.heap.size) l [.slice A l.length c] := fun W' hW => ⟨A, c, rfl, hc, (Kd.C_F (Kd.heap_int .i64) h) W' hW⟩
set_option maxHeartbeats 4000000 in
set_option maxRecDepth 100000 in
theorem rat_off (k : Nat) (a : Int) (A0 : Option Addr) (c0 : Nat) (l : List (List Int)) (ad : Addr) (c1 : Nat) (cl : List Int) (A : Option Addr) (c : Nat) (d : List Int) (x : Int) (B1 B2 : Nat) (w : World) (h1 : w.cell? ⟨B1, 0, none⟩ = some (.slice (some ad) cl.length c1)) (h20 : w.cell? ⟨B2, 0, none⟩ = some (.int .i64 a)) (h21 : w.cell? ⟨B2, 1, none⟩ = some (.slice A0 l.length c0)) (hl : Kd.C (Kd.slice 3 (Kd.int .i64)) w A0 l.length l) (hc0 : l.length ≤ c0) (hcl : Kd.C (Kd.int .i64) w (some ad) cl.length cl) (hc1 : cl.length ≤ c1) (hd : Kd.C (Kd.int .i64) w A d.length d) (hcd : d.length ≤ c) (hp : 0 < cl.length) (hn1 : cl.length ≤ 4096) (hn2 : d.length ≤ 4096) (hx : rd cl 0 = x) (hx0 : -1000000 ≤ x) (hx1 : x ≤ 1000000) (hin : ¬ 0 ≤ idxL (-x) d 0) :
  Calls Try.prog 108 #[.slice A d.length c, .pointer (some ⟨B1, 0, none⟩), .pointer (some ⟨B2, 0, none⟩)] w fun e W' => e = .returned (.bool false) ∧ Below w.heap.size w W' := by
 have hu_Cnf := Try.underlying30
 obtain ⟨ad2, ea, hcell⟩ := Kd.at_int hcl 0 (by omega) (by omega)
 cases ea
 rw [hx] at hcell
 have had : ad.add (0 : Int).toNat = ad := by cases ad; unfold Addr.add; split <;> simp_all
 rw [had] at hcell
 have ew : IntKind.i64.wrap (-x) = -x := IntWalk.i64_in _ (by omega)
 have hcon := contains_any (-x) A c d
 have hp0 : (0 : Int) < (cl.length : Int) := by omega
 have HELD : ∀ V, Below w.heap.size w V → (V.cell? ⟨B1, 0, none⟩ = some (.slice (some ad) cl.length c1) ∧ V.cell? ad = some (.int .i64 x) ∧ V.cell? ⟨B2, 0, none⟩ = some (.int .i64 a) ∧ V.cell? ⟨B2, 1, none⟩ = some (.slice A0 l.length c0)) := fun V hV => ⟨(hV.cell (World.block_lt_of_cell? w _ h1)).trans h1, (hV.cell (World.block_lt_of_cell? w _ hcell)).trans hcell, (hV.cell (World.block_lt_of_cell? w _ h20)).trans h20, (hV.cell (World.block_lt_of_cell? w _ h21)).trans h21⟩
 have HE := Aside0.mk HELD
 have HB0 := Aside0.mk (below_drew (Below.refl w.heap.size w))
 have HCL := Aside0.mk hcl
 have HD := Aside0.mk hd
 have HL := Aside0.mk hl
 clear hcl hd hl
 clear HELD h1 h20 h21 hcell
 go_enter Try.func108, Try.ntmps108
 go_upto_region 1 with fail
 generalize hw20 : w.drew = w20 at HB0
 refine start_ (n := 21) (S := fun w' => w'.cell? ⟨B1, 0, none⟩ = some (.slice (some ad) cl.length c1) ∧ w'.cell? ad = some (.int .i64 x) ∧ w'.cell? ⟨B2, 0, none⟩ = some (.int .i64 a) ∧ w'.cell? ⟨B2, 1, none⟩ = some (.slice A0 l.length c0)) (ds := []) #[false, false, false, false, false, false, false, false, false, false, false, false, false, false, false, false, false, false, false, false, false] (by kernel_rfl) rfl rfl (by rw [hw20]; exact HE.out w20 HB0.out) (fun hHeld => ?_)
 refine with_tabW ratfn_tab ratfn_bits (fun HT_ HW_ => ?_)
 rw [hw20] at hHeld ⊢
 clear hw20
 refine pure_ (i := 0) (N := some 5) (v := ?_) (a' := ?_) #[true, false, false, false, false, false, false, false, false, false, false, false, false, false, false, false, false, false, false, false, false] rfl rfl (any_of HT_.out (by kernel_rfl)) (fun _ _ _ h => h) (Or.inl ⟨by rfl, ?_⟩) ?_ ?_
 rotate_left
 ·intro w'
  go_simp
  with_reducible rfl
 rotate_left
 ·simp only [Act.put, List.setIfInBounds_toArray, List.set_cons_zero, List.set_cons_succ, i64_w, i32_w]
  rfl
 refine take_ (i := 1) (N := some 6) (v := ?_) (a' := ?_) #[true, true, false, false, false, false, false, false, false, false, false, false, false, false, false, false, false, false, false, false, false] rfl rfl (take_ofW HT_.out HW_.out (by kernel_rfl)) (fun _ _ _ h => h) (Or.inl ⟨by rfl, ?_⟩) hHeld ?_ ?_
 rotate_left
 ·rintro w' ⟨s0, s1, s2, s3⟩
  go_simp
  with_reducible rfl
 rotate_left
 ·simp only [Act.put, List.setIfInBounds_toArray, List.set_cons_zero, List.set_cons_succ, i64_w, i32_w]
  rfl
 refine pure_ (i := 2) (N := some 7) (v := ?_) (a' := ?_) #[true, true, true, false, false, false, false, false, false, false, false, false, false, false, false, false, false, false, false, false, false] rfl rfl (any_of HT_.out (by kernel_rfl)) (fun _ _ _ h => h) (Or.inl ⟨by rfl, ?_⟩) ?_ ?_
 rotate_left
 ·intro w'
  go_simp
  with_reducible rfl
 rotate_left
 ·simp only [Act.put, List.setIfInBounds_toArray, List.set_cons_zero, List.set_cons_succ, i64_w, i32_w]
  rfl
 refine take_ (i := 3) (N := some 8) (v := ?_) (a' := ?_) #[true, true, true, true, false, false, false, false, false, false, false, false, false, false, false, false, false, false, false, false, false] rfl rfl (take_ofW HT_.out HW_.out (by kernel_rfl)) (fun _ _ _ h => h) (Or.inl ⟨by rfl, ?_⟩) hHeld ?_ ?_
 rotate_left
 ·rintro w' ⟨s0, s1, s2, s3⟩
  go_simp
  with_reducible rfl
 rotate_left
 ·simp only [Act.put, List.setIfInBounds_toArray, List.set_cons_zero, List.set_cons_succ, i64_w, i32_w]
  rfl
 refine pure_ (i := 4) (N := some 9) (v := ?_) (a' := ?_) #[true, true, true, true, true, false, false, false, false, false, false, false, false, false, false, false, false, false, false, false, false] rfl rfl (any_of HT_.out (by kernel_rfl)) (fun _ _ _ h => h) (Or.inl ⟨by rfl, ?_⟩) ?_ ?_
 rotate_left
 ·intro w'
  go_simp
  with_reducible rfl
 rotate_left
 ·simp only [Act.put, List.setIfInBounds_toArray, List.set_cons_zero, List.set_cons_succ, i64_w, i32_w]
  rfl
 refine one_ (i := 5) (N := some 10) #[true, true, true, true, true, true, false, false, false, false, false, false, false, false, false, false, false, false, false, false, false] rfl rfl (one_of HT_.out (by kernel_rfl)) (by decide) (fun K hK => ?_)
 refine call_ 84 #[.slice A d.length c, .int .i64 (-x)] (by rfl) rfl ?hrun5 ?h5
 case hrun5 =>
  have he := enters_of Try.func84 (by kernel_rfl) rfl
  unfold execOp
  simp [resolve, Deferred.ofValue, invoke, Act.eval, he]
 refine (hcon w20 (Kd.C_below HD.out HB0.out)).mono ?_
 rintro e w' ⟨rfl, hq⟩
 have hq2 := hq.symm
 clear hq hcon
 subst hq2
 rw [decide_eq_false hin]
 refine ⟨_, rfl, ?_⟩
 refine hK.out _ _ hHeld (fun hHeld => ?_)
 clear hK K
 refine norm_ (a' := ?_) ?_ ?_
 rotate_left
 ·show Act.put _ (some 10) _ = _
  simp only [Act.put, List.setIfInBounds_toArray, List.set_cons_zero, List.set_cons_succ, i64_w, i32_w]
  rfl
 refine pure_ (i := 6) (N := some 11) (v := ?_) (a' := ?_) #[true, true, true, true, true, true, true, false, false, false, false, false, false, false, false, false, false, false, false, false, false] rfl rfl (any_of HT_.out (by kernel_rfl)) (fun _ _ _ h => h) (Or.inl ⟨by rfl, ?_⟩) ?_ ?_
 rotate_left
 ·intro w'
  go_simp
  with_reducible rfl
 rotate_left
 ·simp only [Act.put, List.setIfInBounds_toArray, List.set_cons_zero, List.set_cons_succ, i64_w, i32_w]
  rfl
 refine pure_ (i := 7) (N := some 12) (v := undef) (a' := ?_) #[true, true, true, true, true, true, true, true, false, false, false, false, false, false, false, false, false, false, false, false, false] rfl rfl (any_of HT_.out (by kernel_rfl)) (fun _ _ _ h => h) (Or.inr ⟨by rfl, rfl⟩) ?_ ?_
 rotate_left
 ·simp only [Act.put, List.setIfInBounds_toArray, List.set_cons_zero, List.set_cons_succ, i64_w, i32_w]
  rfl
 refine pure_ (i := 8) (N := some 13) (v := undef) (a' := ?_) #[true, true, true, true, true, true, true, true, true, false, false, false, false, false, false, false, false, false, false, false, false] rfl rfl (any_of HT_.out (by kernel_rfl)) (fun _ _ _ h => h) (Or.inr ⟨by rfl, rfl⟩) ?_ ?_
 rotate_left
 ·simp only [Act.put, List.setIfInBounds_toArray, List.set_cons_zero, List.set_cons_succ, i64_w, i32_w]
  rfl
 refine pure_ (i := 9) (N := some 14) (v := undef) (a' := ?_) #[true, true, true, true, true, true, true, true, true, true, false, false, false, false, false, false, false, false, false, false, false] rfl rfl (any_of HT_.out (by kernel_rfl)) (fun _ _ _ h => h) (Or.inr ⟨by rfl, rfl⟩) ?_ ?_
 rotate_left
 ·simp only [Act.put, List.setIfInBounds_toArray, List.set_cons_zero, List.set_cons_succ, i64_w, i32_w]
  rfl
 refine pure_ (i := 10) (N := some 15) (v := undef) (a' := ?_) #[true, true, true, true, true, true, true, true, true, true, true, false, false, false, false, false, false, false, false, false, false] rfl rfl (any_of HT_.out (by kernel_rfl)) (fun _ _ _ h => h) (Or.inr ⟨by rfl, rfl⟩) ?_ ?_
 rotate_left
 ·simp only [Act.put, List.setIfInBounds_toArray, List.set_cons_zero, List.set_cons_succ, i64_w, i32_w]
  rfl
 refine pure_ (i := 11) (N := some 16) (v := undef) (a' := ?_) #[true, true, true, true, true, true, true, true, true, true, true, true, false, false, false, false, false, false, false, false, false] rfl rfl (any_of HT_.out (by kernel_rfl)) (fun _ _ _ h => h) (Or.inr ⟨by rfl, rfl⟩) ?_ ?_
 rotate_left
 ·simp only [Act.put, List.setIfInBounds_toArray, List.set_cons_zero, List.set_cons_succ, i64_w, i32_w]
  rfl
 refine pure_ (i := 12) (N := some 17) (v := undef) (a' := ?_) #[true, true, true, true, true, true, true, true, true, true, true, true, true, false, false, false, false, false, false, false, false] rfl rfl (any_of HT_.out (by kernel_rfl)) (fun _ _ _ h => h) (Or.inr ⟨by rfl, rfl⟩) ?_ ?_
 rotate_left
 ·simp only [Act.put, List.setIfInBounds_toArray, List.set_cons_zero, List.set_cons_succ, i64_w, i32_w]
  rfl
 refine pure_ (i := 13) (N := some 18) (v := undef) (a' := ?_) #[true, true, true, true, true, true, true, true, true, true, true, true, true, true, false, false, false, false, false, false, false] rfl rfl (any_of HT_.out (by kernel_rfl)) (fun _ _ _ h => h) (Or.inr ⟨by rfl, rfl⟩) ?_ ?_
 rotate_left
 ·simp only [Act.put, List.setIfInBounds_toArray, List.set_cons_zero, List.set_cons_succ, i64_w, i32_w]
  rfl
 refine one_ (i := 14) (N := some 19) #[true, true, true, true, true, true, true, true, true, true, true, true, true, true, true, false, false, false, false, false, false] rfl rfl (one_of HT_.out (by kernel_rfl)) (by decide) (fun K hK => ?_)
 refine off_ (by rfl) ?_
 refine hK.out _ _ hHeld (fun hHeld => ?_)
 clear hK K
 refine norm_ (a' := ?_) ?_ ?_
 rotate_left
 ·show Act.put _ (some 19) _ = _
  simp only [Act.put, List.setIfInBounds_toArray, List.set_cons_zero, List.set_cons_succ, i64_w, i32_w]
  rfl
 refine one_ (i := 15) (N := some 20) #[true, true, true, true, true, true, true, true, true, true, true, true, true, true, true, true, false, false, false, false, false] rfl rfl (one_of HT_.out (by kernel_rfl)) (by decide) (fun K hK => ?_)
 refine off_ (by rfl) ?_
 refine hK.out _ _ hHeld (fun hHeld => ?_)
 clear hK K
 refine norm_ (a' := ?_) ?_ ?_
 rotate_left
 ·show Act.put _ (some 20) _ = _
  simp only [Act.put, List.setIfInBounds_toArray, List.set_cons_zero, List.set_cons_succ, i64_w, i32_w]
  rfl
 refine one_ (i := 16) (N := some 21) #[true, true, true, true, true, true, true, true, true, true, true, true, true, true, true, true, true, false, false, false, false] rfl rfl (one_of HT_.out (by kernel_rfl)) (by decide) (fun K hK => ?_)
 refine off_ (by rfl) ?_
 refine hK.out _ _ hHeld (fun hHeld => ?_)
 clear hK K
 refine norm_ (a' := ?_) ?_ ?_
 rotate_left
 ·show Act.put _ (some 21) _ = _
  simp only [Act.put, List.setIfInBounds_toArray, List.set_cons_zero, List.set_cons_succ, i64_w, i32_w]
  rfl
 refine one_ (i := 17) (N := some 22) #[true, true, true, true, true, true, true, true, true, true, true, true, true, true, true, true, true, true, false, false, false] rfl rfl (one_of HT_.out (by kernel_rfl)) (by decide) (fun K hK => ?_)
 refine off_ (by rfl) ?_
 refine hK.out _ _ hHeld (fun hHeld => ?_)
 clear hK K
 refine norm_ (a' := ?_) ?_ ?_
 rotate_left
 ·show Act.put _ (some 22) _ = _
  simp only [Act.put, List.setIfInBounds_toArray, List.set_cons_zero, List.set_cons_succ, i64_w, i32_w]
  rfl
 refine pure_ (i := 18) (N := some 23) (v := undef) (a' := ?_) #[true, true, true, true, true, true, true, true, true, true, true, true, true, true, true, true, true, true, true, false, false] rfl rfl (any_of HT_.out (by kernel_rfl)) (fun _ _ _ h => h) (Or.inr ⟨by rfl, rfl⟩) ?_ ?_
 rotate_left
 ·simp only [Act.put, List.setIfInBounds_toArray, List.set_cons_zero, List.set_cons_succ, i64_w, i32_w]
  rfl
 refine pure_ (i := 19) (N := some 24) (v := ?_) (a' := ?_) #[true, true, true, true, true, true, true, true, true, true, true, true, true, true, true, true, true, true, true, true, false] rfl rfl (any_of HT_.out (by kernel_rfl)) (fun _ _ _ h => h) (Or.inl ⟨by rfl, ?_⟩) ?_ ?_
 rotate_left
 ·intro w'
  go_simp
  with_reducible rfl
 rotate_left
 ·simp only [Act.put, List.setIfInBounds_toArray, List.set_cons_zero, List.set_cons_succ, i64_w, i32_w]
  rfl
 refine pure_ (i := 20) (N := some 4) (v := ?_) (a' := ?_) #[true, true, true, true, true, true, true, true, true, true, true, true, true, true, true, true, true, true, true, true, true] rfl rfl (any_of HT_.out (by kernel_rfl)) (fun _ _ _ h => h) (Or.inl ⟨by rfl, ?_⟩) ?_ ?_
 rotate_left
 ·intro w'
  go_simp
  with_reducible rfl
 rotate_left
 ·simp only [Act.put, List.setIfInBounds_toArray, List.set_cons_zero, List.set_cons_succ, i64_w, i32_w]
  rfl
 refine done_ (done_of HT_.out (by kernel_rfl)) ?_
 go_wp2
 go_ret
 exact ⟨rfl, HB0.out⟩
set_option maxHeartbeats 4000000 in
set_option maxRecDepth 100000 in
theorem rat_on (k : Nat) (a : Int) (A0 : Option Addr) (c0 : Nat) (l : List (List Int)) (ad : Addr) (c1 : Nat) (cl : List Int) (A : Option Addr) (c : Nat) (d : List Int) (x : Int) (B1 B2 : Nat) (w : World) (r : Bool) (hrup : impl_isRup.f k a l (cl ++ d.filter fun y => y != -x) = some r) (h1 : w.cell? ⟨B1, 0, none⟩ = some (.slice (some ad) cl.length c1)) (h20 : w.cell? ⟨B2, 0, none⟩ = some (.int .i64 a)) (h21 : w.cell? ⟨B2, 1, none⟩ = some (.slice A0 l.length c0)) (hl : Kd.C (Kd.slice 3 (Kd.int .i64)) w A0 l.length l) (hc0 : l.length ≤ c0) (hcl : Kd.C (Kd.int .i64) w (some ad) cl.length cl) (hc1 : cl.length ≤ c1) (hd : Kd.C (Kd.int .i64) w A d.length d) (hcd : d.length ≤ c) (hp : 0 < cl.length) (hn1 : cl.length ≤ 4096) (hn2 : d.length ≤ 4096) (hx : rd cl 0 = x) (hx0 : -1000000 ≤ x) (hx1 : x ≤ 1000000) (hin : 0 ≤ idxL (-x) d 0) :
  Calls Try.prog 108 #[.slice A d.length c, .pointer (some ⟨B1, 0, none⟩), .pointer (some ⟨B2, 0, none⟩)] w fun e W' => e = .returned (.bool (!r)) ∧ Below w.heap.size w W' := by
 have hu_Cnf := Try.underlying30
 obtain ⟨ad2, ea, hcell⟩ := Kd.at_int hcl 0 (by omega) (by omega)
 cases ea
 rw [hx] at hcell
 have had : ad.add (0 : Int).toNat = ad := by cases ad; unfold Addr.add; split <;> simp_all
 rw [had] at hcell
 have ew : IntKind.i64.wrap (-x) = -x := IntWalk.i64_in _ (by omega)
 have hcon := contains_any (-x) A c d
 have hp0 : (0 : Int) < (cl.length : Int) := by omega
 have HELD : ∀ V, Below w.heap.size w V → (V.cell? ⟨B1, 0, none⟩ = some (.slice (some ad) cl.length c1) ∧ V.cell? ad = some (.int .i64 x) ∧ V.cell? ⟨B2, 0, none⟩ = some (.int .i64 a) ∧ V.cell? ⟨B2, 1, none⟩ = some (.slice A0 l.length c0)) := fun V hV => ⟨(hV.cell (World.block_lt_of_cell? w _ h1)).trans h1, (hV.cell (World.block_lt_of_cell? w _ hcell)).trans hcell, (hV.cell (World.block_lt_of_cell? w _ h20)).trans h20, (hV.cell (World.block_lt_of_cell? w _ h21)).trans h21⟩
 have HE := Aside0.mk HELD
 have HB0 := Aside0.mk (below_drew (Below.refl w.heap.size w))
 have HCL := Aside0.mk hcl
 have HD := Aside0.mk hd
 have HL := Aside0.mk hl
 clear hcl hd hl
 clear HELD h1 h20 h21 hcell
 go_enter Try.func108, Try.ntmps108
 go_upto_region 1 with fail
 generalize hw20 : w.drew = w20 at HB0
 refine start_ (n := 21) (S := fun w' => w'.cell? ⟨B1, 0, none⟩ = some (.slice (some ad) cl.length c1) ∧ w'.cell? ad = some (.int .i64 x) ∧ w'.cell? ⟨B2, 0, none⟩ = some (.int .i64 a) ∧ w'.cell? ⟨B2, 1, none⟩ = some (.slice A0 l.length c0)) (ds := []) #[false, false, false, false, false, false, false, false, false, false, false, false, false, false, false, false, false, false, false, false, false] (by kernel_rfl) rfl rfl (by rw [hw20]; exact HE.out w20 HB0.out) (fun hHeld => ?_)
 refine with_tabW ratfn_tab ratfn_bits (fun HT_ HW_ => ?_)
 rw [hw20] at hHeld ⊢
 clear hw20
 refine pure_ (i := 0) (N := some 5) (v := ?_) (a' := ?_) #[true, false, false, false, false, false, false, false, false, false, false, false, false, false, false, false, false, false, false, false, false] rfl rfl (any_of HT_.out (by kernel_rfl)) (fun _ _ _ h => h) (Or.inl ⟨by rfl, ?_⟩) ?_ ?_
 rotate_left
 ·intro w'
  go_simp
  with_reducible rfl
 rotate_left
 ·simp only [Act.put, List.setIfInBounds_toArray, List.set_cons_zero, List.set_cons_succ, i64_w, i32_w]
  rfl
 refine take_ (i := 1) (N := some 6) (v := ?_) (a' := ?_) #[true, true, false, false, false, false, false, false, false, false, false, false, false, false, false, false, false, false, false, false, false] rfl rfl (take_ofW HT_.out HW_.out (by kernel_rfl)) (fun _ _ _ h => h) (Or.inl ⟨by rfl, ?_⟩) hHeld ?_ ?_
 rotate_left
 ·rintro w' ⟨s0, s1, s2, s3⟩
  go_simp
  with_reducible rfl
 rotate_left
 ·simp only [Act.put, List.setIfInBounds_toArray, List.set_cons_zero, List.set_cons_succ, i64_w, i32_w]
  rfl
 refine pure_ (i := 2) (N := some 7) (v := ?_) (a' := ?_) #[true, true, true, false, false, false, false, false, false, false, false, false, false, false, false, false, false, false, false, false, false] rfl rfl (any_of HT_.out (by kernel_rfl)) (fun _ _ _ h => h) (Or.inl ⟨by rfl, ?_⟩) ?_ ?_
 rotate_left
 ·intro w'
  go_simp
  with_reducible rfl
 rotate_left
 ·simp only [Act.put, List.setIfInBounds_toArray, List.set_cons_zero, List.set_cons_succ, i64_w, i32_w]
  rfl
 refine take_ (i := 3) (N := some 8) (v := ?_) (a' := ?_) #[true, true, true, true, false, false, false, false, false, false, false, false, false, false, false, false, false, false, false, false, false] rfl rfl (take_ofW HT_.out HW_.out (by kernel_rfl)) (fun _ _ _ h => h) (Or.inl ⟨by rfl, ?_⟩) hHeld ?_ ?_
 rotate_left
 ·rintro w' ⟨s0, s1, s2, s3⟩
  go_simp
  with_reducible rfl
 rotate_left
 ·simp only [Act.put, List.setIfInBounds_toArray, List.set_cons_zero, List.set_cons_succ, i64_w, i32_w]
  rfl
 refine pure_ (i := 4) (N := some 9) (v := ?_) (a' := ?_) #[true, true, true, true, true, false, false, false, false, false, false, false, false, false, false, false, false, false, false, false, false] rfl rfl (any_of HT_.out (by kernel_rfl)) (fun _ _ _ h => h) (Or.inl ⟨by rfl, ?_⟩) ?_ ?_
 rotate_left
 ·intro w'
  go_simp
  with_reducible rfl
 rotate_left
 ·simp only [Act.put, List.setIfInBounds_toArray, List.set_cons_zero, List.set_cons_succ, i64_w, i32_w]
  rfl
 refine one_ (i := 5) (N := some 10) #[true, true, true, true, true, true, false, false, false, false, false, false, false, false, false, false, false, false, false, false, false] rfl rfl (one_of HT_.out (by kernel_rfl)) (by decide) (fun K hK => ?_)
 refine call_ 84 #[.slice A d.length c, .int .i64 (-x)] (by rfl) rfl ?hrun5 ?h5
 case hrun5 =>
  have he := enters_of Try.func84 (by kernel_rfl) rfl
  unfold execOp
  simp [resolve, Deferred.ofValue, invoke, Act.eval, he]
 refine (hcon w20 (Kd.C_below HD.out HB0.out)).mono ?_
 rintro e w' ⟨rfl, hq⟩
 have hq2 := hq.symm
 clear hq hcon
 subst hq2
 rw [decide_eq_true hin]
 refine ⟨_, rfl, ?_⟩
 refine hK.out _ _ hHeld (fun hHeld => ?_)
 clear hK K
 refine norm_ (a' := ?_) ?_ ?_
 rotate_left
 ·show Act.put _ (some 10) _ = _
  simp only [Act.put, List.setIfInBounds_toArray, List.set_cons_zero, List.set_cons_succ, i64_w, i32_w]
  rfl
 refine pure_ (i := 6) (N := some 11) (v := ?_) (a' := ?_) #[true, true, true, true, true, true, true, false, false, false, false, false, false, false, false, false, false, false, false, false, false] rfl rfl (any_of HT_.out (by kernel_rfl)) (fun _ _ _ h => h) (Or.inl ⟨by rfl, ?_⟩) ?_ ?_
 rotate_left
 ·intro w'
  go_simp
  with_reducible rfl
 rotate_left
 ·simp only [Act.put, List.setIfInBounds_toArray, List.set_cons_zero, List.set_cons_succ, i64_w, i32_w]
  rfl
 refine take_ (i := 7) (N := some 12) (v := ?_) (a' := ?_) #[true, true, true, true, true, true, true, true, false, false, false, false, false, false, false, false, false, false, false, false, false] rfl rfl (take_ofW HT_.out HW_.out (by kernel_rfl)) (fun _ _ _ h => h) (Or.inl ⟨by rfl, ?_⟩) hHeld ?_ ?_
 rotate_left
 ·rintro w' ⟨s0, s1, s2, s3⟩
  go_simp
  with_reducible rfl
 rotate_left
 ·simp only [Act.put, List.setIfInBounds_toArray, List.set_cons_zero, List.set_cons_succ, i64_w, i32_w]
  rfl
 refine take_ (i := 8) (N := some 13) (v := ?_) (a' := ?_) #[true, true, true, true, true, true, true, true, true, false, false, false, false, false, false, false, false, false, false, false, false] rfl rfl (take_ofW HT_.out HW_.out (by kernel_rfl)) (fun _ _ _ h => h) (Or.inl ⟨by rfl, ?_⟩) hHeld ?_ ?_
 rotate_left
 ·rintro w' ⟨s0, s1, s2, s3⟩
  go_simp
  with_reducible rfl
 rotate_left
 ·simp only [Act.put, List.setIfInBounds_toArray, List.set_cons_zero, List.set_cons_succ, i64_w, i32_w]
  rfl
 refine pure_ (i := 9) (N := some 14) (v := ?_) (a' := ?_) #[true, true, true, true, true, true, true, true, true, true, false, false, false, false, false, false, false, false, false, false, false] rfl rfl (any_of HT_.out (by kernel_rfl)) (fun _ _ _ h => h) (Or.inl ⟨by rfl, ?_⟩) ?_ ?_
 rotate_left
 ·intro w'
  go_simp
  with_reducible rfl
 rotate_left
 ·simp only [Act.put, List.setIfInBounds_toArray, List.set_cons_zero, List.set_cons_succ, i64_w, i32_w]
  rfl
 refine take_ (i := 10) (N := some 15) (v := ?_) (a' := ?_) #[true, true, true, true, true, true, true, true, true, true, true, false, false, false, false, false, false, false, false, false, false] rfl rfl (take_ofW HT_.out HW_.out (by kernel_rfl)) (fun _ _ _ h => h) (Or.inl ⟨by rfl, ?_⟩) hHeld ?_ ?_
 rotate_left
 ·rintro w' ⟨s0, s1, s2, s3⟩
  go_simp
  with_reducible rfl
 rotate_left
 ·simp only [Act.put, List.setIfInBounds_toArray, List.set_cons_zero, List.set_cons_succ, i64_w, i32_w]
  rfl
 refine pure_ (i := 11) (N := some 16) (v := ?_) (a' := ?_) #[true, true, true, true, true, true, true, true, true, true, true, true, false, false, false, false, false, false, false, false, false] rfl rfl (any_of HT_.out (by kernel_rfl)) (fun _ _ _ h => h) (Or.inl ⟨by rfl, ?_⟩) ?_ ?_
 rotate_left
 ·intro w'
  go_simp
  with_reducible rfl
 rotate_left
 ·simp only [Act.put, List.setIfInBounds_toArray, List.set_cons_zero, List.set_cons_succ, i64_w, i32_w]
  rfl
 refine take_ (i := 12) (N := some 17) (v := ?_) (a' := ?_) #[true, true, true, true, true, true, true, true, true, true, true, true, true, false, false, false, false, false, false, false, false] rfl rfl (take_ofW HT_.out HW_.out (by kernel_rfl)) (fun _ _ _ h => h) (Or.inl ⟨by rfl, ?_⟩) hHeld ?_ ?_
 rotate_left
 ·rintro w' ⟨s0, s1, s2, s3⟩
  go_simp
  with_reducible rfl
 rotate_left
 ·simp only [Act.put, List.setIfInBounds_toArray, List.set_cons_zero, List.set_cons_succ, i64_w, i32_w]
  rfl
 refine pure_ (i := 13) (N := some 18) (v := ?_) (a' := ?_) #[true, true, true, true, true, true, true, true, true, true, true, true, true, true, false, false, false, false, false, false, false] rfl rfl (any_of HT_.out (by kernel_rfl)) (fun _ _ _ h => h) (Or.inl ⟨by rfl, ?_⟩) ?_ ?_
 rotate_left
 ·intro w'
  go_simp
  with_reducible rfl
 rotate_left
 ·simp only [Act.put, List.setIfInBounds_toArray, List.set_cons_zero, List.set_cons_succ, i64_w, i32_w]
  rfl
 refine one_ (i := 14) (N := some 19) #[true, true, true, true, true, true, true, true, true, true, true, true, true, true, true, false, false, false, false, false, false] rfl rfl (one_of HT_.out (by kernel_rfl)) (by decide) (fun K hK => ?_)
 refine call_ 87 #[.slice A d.length c, .int .i64 (-x)] (by rfl) rfl ?hrun14 ?h14
 case hrun14 =>
  have he := enters_of Try.func87 (by kernel_rfl) rfl
  unfold execOp
  simp [resolve, Deferred.ofValue, invoke, Act.eval, he]
 refine (without_any (-x) A c d w20 (Kd.C_below HD.out HB0.out) hin hn2).mono ?_
 rintro e w21 ⟨v, rfl, hR, hb⟩
 obtain ⟨Av, cv, ev, hlv, hCv⟩ := Kd.R_reads hR
 subst ev
 clear hR
 have HB1 := Aside0.mk (HB0.out.trans (hb.mono HB0.out.size))
 clear hb
 refine ⟨_, rfl, ?_⟩
 refine hK.out _ _ (HE.out w21 HB1.out) (fun hHeld => ?_)
 clear hK K
 refine norm_ (a' := ?_) ?_ ?_
 rotate_left
 ·show Act.put _ (some 19) _ = _
  simp only [Act.put, List.setIfInBounds_toArray, List.set_cons_zero, List.set_cons_succ, i64_w, i32_w]
  rfl
 refine one_ (i := 15) (N := some 20) #[true, true, true, true, true, true, true, true, true, true, true, true, true, true, true, true, false, false, false, false, false] rfl rfl (one_of HT_.out (by kernel_rfl)) (by decide) (fun K hK => ?_)
 refine Kd.N_lit_step (Kd.slice 3 (Kd.int .i64)) w21.heap.size 37 (by rfl) (N' := 20) rfl (xs := [cl, d.filter fun y => y != -x]) (inner := [.slice (some ad) cl.length c1, .slice Av (d.filter fun y => y != -x).length cv]) (ok := fun _ => True) (okp := fun k => k < w21.heap.size) ?hr20 ?hp20 (fun _ _ => trivial) trivial (Below.refl _ _) (Nat.le_refl _) (by simp) ?_
 case hr20 => first | (go_simp; done) | (go_simp; rfl)
 case hp20 => exact Reps.one (foot_K (Kd.C_below HCL.out HB1.out) hc1) (Reps.one (foot_K hCv hlv) (Reps.none _ _))
 intro v2 w22 ho hb hg_ hnew_
 obtain ⟨A2, c2, ev2⟩ := Kd.N_slice ho
 subst ev2
 obtain ⟨-, hl2, hC2⟩ := Kd.N_reads' ho
 clear ho hg_ hnew_ hCv
 have HB2 := Aside0.mk (HB1.out.trans (hb.mono HB1.out.size))
 clear hb
 refine hK.out _ _ (HE.out w22 HB2.out) (fun hHeld => ?_)
 clear hK K
 refine norm_ (a' := ?_) ?_ ?_
 rotate_left
 ·show Act.put _ (some 20) _ = _
  simp only [Act.put, List.setIfInBounds_toArray, List.set_cons_zero, List.set_cons_succ, i64_w, i32_w]
  rfl
 refine one_ (i := 16) (N := some 21) #[true, true, true, true, true, true, true, true, true, true, true, true, true, true, true, true, true, false, false, false, false] rfl rfl (one_of HT_.out (by kernel_rfl)) (by decide) (fun K hK => ?_)
 refine call_ 86 #[.slice A2 [cl, d.filter fun y => y != -x].length c2] (by rfl) rfl ?hrun16 ?h16
 case hrun16 =>
  have he := enters_of Try.func86 (by kernel_rfl) rfl
  unfold execOp
  simp [resolve, Deferred.ofValue, invoke, Act.eval, he]
 have hfl : [cl, d.filter fun y => y != -x].flatten = cl ++ d.filter fun y => y != -x := by simp
 have hfle : (d.filter fun y => y != -x).length ≤ d.length := List.length_filter_le _ _
 refine (concat_any A2 c2 [cl, d.filter fun y => y != -x] w22 hC2 (by rw [hfl, List.length_append]; omega) (by rw [hfl, List.length_append]; omega)).mono ?_
 rintro e w23 ⟨v3, rfl, hR3, hb⟩
 rw [hfl] at hR3
 obtain ⟨A3, c3, ev3, hl3, hC3⟩ := Kd.R_reads hR3
 subst ev3
 clear hR3 hfl hfle hC2
 have HB3 := Aside0.mk (HB2.out.trans (hb.mono HB2.out.size))
 clear hb
 refine ⟨_, rfl, ?_⟩
 refine hK.out _ _ (HE.out w23 HB3.out) (fun hHeld => ?_)
 clear hK K
 refine norm_ (a' := ?_) ?_ ?_
 rotate_left
 ·show Act.put _ (some 21) _ = _
  simp only [Act.put, List.setIfInBounds_toArray, List.set_cons_zero, List.set_cons_succ, i64_w, i32_w]
  rfl
 refine one_ (i := 17) (N := some 22) #[true, true, true, true, true, true, true, true, true, true, true, true, true, true, true, true, true, true, false, false, false] rfl rfl (one_of HT_.out (by kernel_rfl)) (by decide) (fun K hK => ?_)
 refine call_ 62 #[.agg #[.int .i64 a, .slice A0 l.length c0], .slice A3 (cl ++ d.filter fun y => y != -x).length c3] (by rfl) rfl ?hrun17 ?h17
 case hrun17 =>
  have he := enters_of Try.func62 (by kernel_rfl) rfl
  unfold execOp
  simp [resolve, Deferred.ofValue, invoke, Act.eval, he]
 refine (impl_isRup.calls k a A0 c0 l A3 c3 (cl ++ d.filter fun y => y != -x) r w23 (Kd.C_below HL.out HB3.out) hc0 hC3 hl3 hrup).mono ?_
 rintro e w24 ⟨rfl, hb⟩
 have HB4 := Aside0.mk (HB3.out.trans (hb.mono HB3.out.size))
 clear hb hC3
 refine ⟨_, rfl, ?_⟩
 refine hK.out _ _ (HE.out w24 HB4.out) (fun hHeld => ?_)
 clear hK K
 refine norm_ (a' := ?_) ?_ ?_
 rotate_left
 ·show Act.put _ (some 22) _ = _
  simp only [Act.put, List.setIfInBounds_toArray, List.set_cons_zero, List.set_cons_succ, i64_w, i32_w]
  rfl
 refine pure_ (i := 18) (N := some 23) (v := ?_) (a' := ?_) #[true, true, true, true, true, true, true, true, true, true, true, true, true, true, true, true, true, true, true, false, false] rfl rfl (any_of HT_.out (by kernel_rfl)) (fun _ _ _ h => h) (Or.inl ⟨by rfl, ?_⟩) ?_ ?_
 rotate_left
 ·intro w'
  go_simp
  with_reducible rfl
 rotate_left
 ·simp only [Act.put, List.setIfInBounds_toArray, List.set_cons_zero, List.set_cons_succ, i64_w, i32_w]
  rfl
 refine pure_ (i := 19) (N := some 24) (v := ?_) (a' := ?_) #[true, true, true, true, true, true, true, true, true, true, true, true, true, true, true, true, true, true, true, true, false] rfl rfl (any_of HT_.out (by kernel_rfl)) (fun _ _ _ h => h) (Or.inl ⟨by rfl, ?_⟩) ?_ ?_
 rotate_left
 ·intro w'
  go_simp
  with_reducible rfl
 rotate_left
 ·simp only [Act.put, List.setIfInBounds_toArray, List.set_cons_zero, List.set_cons_succ, i64_w, i32_w]
  rfl
 refine pure_ (i := 20) (N := some 4) (v := ?_) (a' := ?_) #[true, true, true, true, true, true, true, true, true, true, true, true, true, true, true, true, true, true, true, true, true] rfl rfl (any_of HT_.out (by kernel_rfl)) (fun _ _ _ h => h) (Or.inl ⟨by rfl, ?_⟩) ?_ ?_
 rotate_left
 ·intro w'
  go_simp
  with_reducible rfl
 rotate_left
 ·simp only [Act.put, List.setIfInBounds_toArray, List.set_cons_zero, List.set_cons_succ, i64_w, i32_w]
  rfl
 refine done_ (done_of HT_.out (by kernel_rfl)) ?_
 go_wp2
 go_ret
 exact ⟨rfl, HB4.out⟩
def ratsO (k : Nat) (a : Int) (l : List (List Int)) (cl : List Int) : List (List Int) → Option Bool
 | [] => some false
 | d :: r => (ratB k a l cl d).bind fun b => (ratsO k a l cl r).bind fun b2 => some (b || b2)
theorem ratsO_some {k : Nat} {a : Int} {l : List (List Int)} {cl : List Int} : ∀ (ds : List (List Int)) (r : Bool), ratsO k a l cl ds = some r → (∀ d ∈ ds, ∃ b, ratB k a l cl d = some b) ∧ r = ds.any fun d => ratB k a l cl d == some true
 | [], r, h => by
  rw [ratsO] at h
  exact ⟨fun d hd => (by cases hd), (Option.some.inj h).symm⟩
 | d :: ds, r, h => by
  rw [ratsO] at h
  obtain ⟨b, hb, h⟩ := Option.bind_eq_some_iff.1 h
  obtain ⟨b2, hb2, h⟩ := Option.bind_eq_some_iff.1 h
  obtain ⟨k1, k2⟩ := ratsO_some ds b2 hb2
  refine ⟨fun e he => ?_, ?_⟩
  ·rcases List.mem_cons.1 he with rfl | he
   ·exact ⟨b, hb⟩
   ·exact k1 e he
  ·rw [List.any_cons, hb, ← k2, ← Option.some.inj h]
   cases b <;> rfl
def ratOK (cl : List Int) (l : List (List Int)) : Bool := decide (cl.length ≤ 4096) && decide (-1000000 ≤ rd cl 0) && decide (rd cl 0 ≤ 1000000) && l.all fun d => decide (d.length ≤ 4096)
def impl_isRat.f (k : Nat) (a0_0 : Int) (l0_1 : List (List Int)) (l1 : List Int) : Option Bool := if (l1.length : Int) = 0 then some false else if ratOK l1 l0_1 = true then (ratsO k a0_0 l0_1 l1 l0_1).bind fun b => some (!b) else none
set_option maxHeartbeats 1600000 in
set_option maxRecDepth 100000 in
theorem impl_isRat.calls (k : Nat) (a0_0 : Int) (A0_1 : Option Addr) (c0_1 : Nat) (l0_1 : List (List Int)) (A1 : Option Addr) (c1 : Nat) (l1 : List Int) (r : Bool) (w : World) (hr0_1 : Kd.C (Kd.slice 3 (Kd.int .i64)) w A0_1 l0_1.length l0_1) (hc0_1 : l0_1.length ≤ c0_1) (hr1 : Kd.C (Kd.int .i64) w A1 l1.length l1) (hc1 : l1.length ≤ c1) (h : impl_isRat.f k a0_0 l0_1 l1 = some r) :
  Calls Try.prog 78 #[.agg #[.int .i64 a0_0, .slice A0_1 l0_1.length c0_1], .slice A1 l1.length c1] w fun e w' => e = .returned (.bool r) ∧ Below w.heap.size w w' := by
 unfold impl_isRat.f at h
 have hu_Cnf := Try.underlying30
 have hB1 : Below w.heap.size w ((w.alloc (.cells #[.int .i64 a0_0, .slice A0_1 l0_1.length c0_1] 30)).alloc (.cells #[.slice A1 l1.length c1] 37)) := ((Below.refl _ _).alloc (Nat.le_refl _) _).alloc (by simp) _
 obtain ⟨W1, B1, hW1, hB, BX, BY, HB1⟩ : ∃ W1 B1, ((w.alloc (.cells #[.int .i64 a0_0, .slice A0_1 l0_1.length c0_1] 30)).alloc (.cells #[.slice A1 l1.length c1] 37)) = W1 ∧ w.heap.size + 1 = B1 ∧ W1.heap[w.heap.size]? = some (.cells #[.int .i64 a0_0, .slice A0_1 l0_1.length c0_1] 30 (0, 0)) ∧ W1.heap[B1]? = some (.cells #[.slice A1 l1.length c1] 37 (0, 0)) ∧ Below w.heap.size w W1 := by
  refine ⟨_, _, rfl, rfl, blk_alloc (blk_new w _) _, ?_, hB1⟩
  have := blk_new (w.alloc (.cells #[.int .i64 a0_0, .slice A0_1 l0_1.length c0_1] 30)) (.cells #[.slice A1 l1.length c1] 37)
  rwa [show (w.alloc (.cells #[.int .i64 a0_0, .slice A0_1 l0_1.length c0_1] 30)).heap.size = w.heap.size + 1 by simp] at this
 have HW1 := Aside0.mk hW1
 have HBB := Aside0.mk hB
 have HB := Aside0.mk HB1
 have hx0 : W1.cell? ⟨w.heap.size, 0, none⟩ = some (.int .i64 a0_0) := (blk_cell BX 0).trans rfl
 have hx1 : W1.cell? ⟨w.heap.size, 1, none⟩ = some (.slice A0_1 l0_1.length c0_1) := (blk_cell BX 1).trans rfl
 have hx2 : W1.cell? ⟨B1, 0, none⟩ = some (.slice A1 l1.length c1) := (blk_cell BY 0).trans rfl
 have hL := Kd.C_below hr0_1 HB1
 have hC := Kd.C_below hr1 HB1
 clear hB1 hW1 hB HB1 hr0_1 hr1 BX BY
 by_cases t1 : (l1.length : Int) = 0
 ·rw [if_pos t1] at h
  obtain rfl := Option.some.inj h
  have t2 : ((l1.length : Int) == 0) = true := by simp [t1]
  clear h hL hC
  go_enter Try.func78, Try.ntmps78
  go_upto_region 1 with fail
  rw [HW1.out, HBB.out]
  go_wp2
  go_ret
  exact ⟨rfl, HB.out⟩
 ·rw [if_neg t1] at h
  by_cases t2 : ratOK l1 l0_1 = true
  ·rw [if_pos t2] at h
   obtain ⟨b, hb, h⟩ := Option.bind_eq_some_iff.1 h
   obtain rfl := Option.some.inj h
   obtain ⟨hall, rfl⟩ := ratsO_some l0_1 b hb
   simp only [ratOK, Bool.and_eq_true, decide_eq_true_eq] at t2
   obtain ⟨⟨⟨n1, n2⟩, n3⟩, n4⟩ := t2
   have hp : 0 < l1.length := by omega
   obtain ⟨ad, ea, -⟩ := Kd.at_int hC 0 (by omega) (by omega)
   subst ea
   have hcon := anyIntsL' (fun d => ratB k a0_0 l0_1 l1 d == some true) 108 #[.pointer (some ⟨B1, 0, none⟩), .pointer (some ⟨w.heap.size, 0, none⟩)] (enters_of Try.func108 (by kernel_rfl) rfl) A0_1 l0_1 c0_1 W1 hL
    (fun A9 c9 d hm W' hbw hCd hcd => by
     have hdl : d.length ≤ 4096 := of_decide_eq_true (List.all_eq_true.1 n4 d hm)
     have y1 := (hbw.cell (World.block_lt_of_cell? W1 _ hx2)).trans hx2
     have y2 := (hbw.cell (World.block_lt_of_cell? W1 _ hx0)).trans hx0
     have y3 := (hbw.cell (World.block_lt_of_cell? W1 _ hx1)).trans hx1
     obtain ⟨b, hbd⟩ := hall d hm
     rw [hbd]
     unfold ratB at hbd
     by_cases hi : 0 ≤ idxL (-(rd l1 0)) d 0
     ·rw [if_pos hi] at hbd
      obtain ⟨b2, hb2, hbd⟩ := Option.bind_eq_some_iff.1 hbd
      obtain rfl := Option.some.inj hbd
      have := rat_on k a0_0 A0_1 c0_1 l0_1 ad c1 l1 A9 c9 d _ B1 w.heap.size W' b2 hb2 y1 y2 y3 (Kd.C_below hL hbw) hc0_1 (Kd.C_below hC hbw) hc1 hCd hcd hp n1 hdl rfl n2 n3 hi
      cases b2 <;> exact this
     ·rw [if_neg hi] at hbd
      obtain rfl := Option.some.inj hbd
      exact rat_off k a0_0 A0_1 c0_1 l0_1 ad c1 l1 A9 c9 d _ B1 w.heap.size W' y1 y2 y3 (Kd.C_below hL hbw) hc0_1 (Kd.C_below hC hbw) hc1 hCd hcd hp n1 hdl rfl n2 n3 hi)
   have t3 : ((l1.length : Int) == 0) = false := beq_eq_false_iff_ne.mpr t1
   clear hall hb hL hC n4 h
   generalize (l0_1.any fun d => ratB k a0_0 l0_1 l1 d == some true) = q at hcon ⊢
   go_enter Try.func78, Try.ntmps78
   go_upto_region 1 with fail
   rw [HW1.out, HBB.out]
   go_wp2_with (go_at_call 98; refine hcon.mono ?_; rintro e w' ⟨rfl, hbw⟩)
   go_ret
   exact ⟨rfl, HB.out.trans (hbw.mono HB.out.size)⟩
  ·rw [if_neg t2] at h
   cases h
def impl_rank.f (a0 : Int) : Option (Int) := if a0 < 0 then (some (wrap64 (1 - (wrap64 (2 * a0))))) else (some (wrap64 (2 * a0)))
set_option maxHeartbeats 8000000 in
set_option maxRecDepth 100000 in
theorem impl_rank.calls (a0 : Int) (r : Int) (w : World) (h : impl_rank.f a0 = some r) :
  Calls Try.prog 128 #[.int .i64 a0] w fun e w' => e = .returned (.int .i64 r) ∧ Drawn0 w w' := by
 have H : (if a0 < 0 then (some (wrap64 (1 - (wrap64 (2 * a0))))) else (some (wrap64 (2 * a0)))) = some r := h
 clear h
 by_cases c2 : a0 < 0
 ·rw [if_pos c2] at H
  have c2b0 : decide (a0 < 0) = true := decide_eq_true c2
  clear c2
  obtain rfl := Option.some.inj H
  go_enter Try.func128, Try.ntmps128
  go_wp2
  go_ret
  exact ⟨by first | rfl | (simp; done) | (simp [*]; done), by repeat (first | exact Drawn0.refl _ | apply Drawn0.step)⟩
 ·rw [if_neg c2] at H
  have c2b0 : decide (a0 < 0) = false := decide_eq_false c2
  clear c2
  obtain rfl := Option.some.inj H
  go_enter Try.func128, Try.ntmps128
  go_wp2
  go_ret
  exact ⟨by first | rfl | (simp; done) | (simp [*]; done), by repeat (first | exact Drawn0.refl _ | apply Drawn0.step)⟩
def impl_compareLiterals.f (a0 : Int) (a1 : Int) : Option (Int) := (impl_rank.f a0).bind fun t228 => ((impl_rank.f a1).bind fun t229 => (some (wrap64 (t228 - t229))))
set_option maxHeartbeats 8000000 in
set_option maxRecDepth 100000 in
theorem impl_compareLiterals.calls (a0 : Int) (a1 : Int) (r : Int) (w : World) (h : impl_compareLiterals.f a0 a1 = some r) :
  Calls Try.prog 115 #[.int .i64 a0, .int .i64 a1] w fun e w' => e = .returned (.int .i64 r) ∧ Drawn0 w w' := by
 have H : ((impl_rank.f a0).bind fun t228 => ((impl_rank.f a1).bind fun t229 => (some (wrap64 (t228 - t229))))) = some r := h
 clear h
 replace H := Option.bind_eq_some_iff.mp H
 obtain ⟨t228, A30, H⟩ := H
 replace H : ((impl_rank.f a1).bind fun t229 => (some (wrap64 (t228 - t229)))) = some r := H
 have A3 := Aside0.mk A30
 clear A30
 replace H := Option.bind_eq_some_iff.mp H
 obtain ⟨t229, A40, H⟩ := H
 replace H : (some (wrap64 (t228 - t229))) = some r := H
 have A4 := Aside0.mk A40
 clear A40
 obtain rfl := Option.some.inj H
 go_enter Try.func115, Try.ntmps115
 go_wp2_with (first | ((with_reducible refine gate_callee (f := 128) rfl ?_); refine goesL_ (some 6) rfl rfl Try.func128 (by kernel_rfl) rfl #[.int .i64 a0] rfl (by (try simp only [List.map_toArray, List.map_cons, List.map_nil]); first | done | rfl | (simp only [List.length_drop, List.length_take]; rfl)) ?_; (with_reducible refine (impl_rank.calls a0 t228 _ A3.out).mono ?_); rintro e w' ⟨rfl, ⟨nd, rfl⟩⟩; refine ⟨_, rfl, ?_⟩) | ((with_reducible refine gate_callee (f := 128) rfl ?_); refine goesL_ (some 8) rfl rfl Try.func128 (by kernel_rfl) rfl #[.int .i64 a1] rfl (by (try simp only [List.map_toArray, List.map_cons, List.map_nil]); first | done | rfl | (simp only [List.length_drop, List.length_take]; rfl)) ?_; (with_reducible refine (impl_rank.calls a1 t229 _ A4.out).mono ?_); rintro e w' ⟨rfl, ⟨nd, rfl⟩⟩; refine ⟨_, rfl, ?_⟩))
 go_ret
 exact ⟨by first | rfl | (simp; done) | (simp [*]; done), by repeat (first | exact Drawn0.refl _ | apply Drawn0.step)⟩
end Go.Proofs.Ytelfahcjeldliaa.PFnExactCheckProof
end
