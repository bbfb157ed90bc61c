/- FnExactNormalCnf: for every input the law returns true. The texts that this program's session printed and proved for it, those that the proof uses, laid together. Conditions: the form's own reach alone. -/
import Derived.Test.YtelfahcjeldliaaQFnExactNormalCnf1
section
namespace Go.Proofs.Ytelfahcjeldliaa.PFnExactNormalCnf
open Go.RowKit Go.Proofs.YtelfahcjeldliaaW.PrintWords Go.Proofs.YtelfahcjeldliaaW.PrintLast Go.Proofs.YtelfahcjeldliaaW.PrintMore
attribute [local go_sem] max2_int min2_int max_two min_two max_three min_three max_four min_four   -- for this text's walks alone
set_option linter.unusedVariables false
set_option linter.unusedSimpArgs false
def okO (c : List Int) : Bool := (impl_inOrder.f c).isSome
theorem okO_is {c : List Int} (h : okO c = true) : impl_inOrder.f c = some (ordL c) := by
 unfold okO at h
 unfold impl_inOrder.f at h ⊢
 split at h
 ·rename_i hc; rw [if_pos hc]
 ·cases h
def keptC (cs : List (List Int)) : List (List Int) := (cs.map ordL).filter (fun c => !tautL c)
theorem keptC_snoc (cs : List (List Int)) (x : List Int) : keptC (cs ++ [x]) = if tautL (ordL x) = true then keptC cs else keptC cs ++ [ordL x] := by
 unfold keptC
 rw [List.map_append, List.filter_append]
 by_cases h : tautL (ordL x) = true
 ·simp [h]
 ·simp [h]
def insC (x : List Int) : List (List Int) → List (List Int)
 | [] => [x]
 | y :: r => if cmpL y x < 0 then y :: insC x r else x :: y :: r
def sortC : List (List Int) → List (List Int)
 | [] => []
 | x :: r => insC x (sortC r)
theorem insC_perm (x : List Int) : ∀ l, (insC x l).Perm (x :: l)
 | [] => List.Perm.refl _
 | y :: r => by
  rw [insC]
  split
  ·exact ((insC_perm x r).cons y).trans (List.Perm.swap x y r)
  ·exact List.Perm.refl _
theorem sortC_perm : ∀ l, (sortC l).Perm l
 | [] => List.Perm.refl _
 | x :: r => (insC_perm x _).trans ((sortC_perm r).cons x)
theorem insC_sorted (x : List Int) : ∀ l, l.Pairwise (fun a b => ¬ cmpL b a < 0) → (insC x l).Pairwise (fun a b => ¬ cmpL b a < 0)
 | [], _ => List.pairwise_singleton _ _
 | y :: r, h => by
  obtain ⟨h1, h2⟩ := List.pairwise_cons.1 h
  rw [insC]
  split
  ·rename_i hlt
   refine List.pairwise_cons.2 ⟨fun z hz => ?_, insC_sorted x r h2⟩
   rcases List.mem_cons.1 ((insC_perm x r).mem_iff.1 hz) with rfl | hz
   ·intro h3
    have := (cmpL_neg _ _).1 hlt
    omega
   ·exact h1 z hz
  ·rename_i hlt
   refine List.pairwise_cons.2 ⟨fun z hz => ?_, h⟩
   rcases List.mem_cons.1 hz with rfl | hz
   ·exact hlt
   ·exact cmpL_ntrans (h1 z hz) hlt
theorem sortC_sorted : ∀ l, (sortC l).Pairwise (fun a b => ¬ cmpL b a < 0)
 | [] => List.Pairwise.nil
 | x :: r => insC_sorted x _ (sortC_sorted r)
theorem cmpL_anti {a b : List Int} (h1 : ¬ cmpL a b < 0) (h2 : ¬ cmpL b a < 0) : a = b := by
 have := (cmpL_neg b a).2
 exact cmpL_zero (by omega)
theorem sorted_eq : ∀ (xs ys : List (List Int)), xs.Perm ys → xs.Pairwise (fun a b => ¬ cmpL b a < 0) → ys.Pairwise (fun a b => ¬ cmpL b a < 0) → xs = ys
 | [], ys, hp, _, _ => (List.nil_perm.1 hp).symm
 | x :: r, [], hp, _, _ => absurd hp.length_eq (by simp)
 | x :: r, y :: s, hp, h1, h2 => by
  obtain ⟨a1, a2⟩ := List.pairwise_cons.1 h1
  obtain ⟨b1, b2⟩ := List.pairwise_cons.1 h2
  have e : x = y := by
   rcases List.mem_cons.1 (hp.mem_iff.1 List.mem_cons_self) with e | hx
   ·exact e
   ·rcases List.mem_cons.1 (hp.mem_iff.2 (List.mem_cons_self (a := y) (l := s))) with e | hy
    ·exact e.symm
    ·exact cmpL_anti (b1 x hx) (a1 y hy)
  subst e
  rw [sorted_eq r s ((List.perm_cons x).1 hp) a2 b2]
theorem sorted_is {xs ys : List (List Int)} (hp : ys.Perm xs) (hs : ys.Pairwise (fun a b => ¬ cmpL b a < 0)) : ys = sortC xs := sorted_eq _ _ (hp.trans (sortC_perm xs).symm) hs (sortC_sorted xs)
def impl_NormalCnf.f (a0_0 : Int) (l0_1 : List (List Int)) : Option (Int × List (List Int) × Int) :=
 if cnfB a0_0 l0_1 = true then (if l0_1.length ≤ 4096 ∧ l0_1.all okO = true ∧ ∀ l ∈ keptC l0_1, ∀ x ∈ l, inR x then some (a0_0, cmpX (sortC (keptC l0_1)), 0) else none) else some (0, [], 1)
theorem blk30_ne {base : Nat} {ok : Nat → Prop} {W : World} {v : Value} {ls : List (List Int)} {g : Nat} {cs : Array Value} (h : Kd.S (Kd.slice 3 (Kd.int .i64)) 37 W base ok v ls) (hg : W.heap[g]? = some (.cells cs 30 (0, 0))) : some g ≠ v.ownBlock := Kd.S_ne h hg (by decide)
set_option maxHeartbeats 3000000 in
set_option maxRecDepth 100000 in
theorem impl_NormalCnf.calls (a0_0 : Int) (A0_1 : Option Addr) (c0_1 : Nat) (l0_1 : List (List Int)) (r1 : Int) (r2 : List (List Int)) (r3 : Int) (w : World) (hr0_1 : Kd.C (Kd.slice 3 (Kd.int .i64)) w A0_1 l0_1.length l0_1) (hc0_1 : l0_1.length ≤ c0_1) (h : impl_NormalCnf.f a0_0 l0_1 = some (r1, r2, r3)) :
  Calls Try.prog 45 #[.agg #[.int .i64 a0_0, .slice A0_1 l0_1.length c0_1]] w fun e w' => ∃ v1_ : Value, e = .returned (.tuple #[.agg #[.int .i64 r1, v1_], .int .i64 r3]) ∧ Kd.S (Kd.slice 3 (Kd.int .i64)) 37 w' w.heap.size (fun _ => True) v1_ r2 ∧ Below w.heap.size w w' := by
 have hu30 := Try.underlying30
 unfold impl_NormalCnf.f at h
 have HR0 := Aside0.mk hr0_1
 have HC0 := Aside0.mk hc0_1
 have hcnf := fun W V (hV : Kd.C (Kd.slice 3 (Kd.int .i64)) W A0_1 l0_1.length l0_1) => impl_isCnf.calls a0_0 A0_1 c0_1 l0_1 V W hV hc0_1
 clear hr0_1 hc0_1
 obtain ⟨g, hg⟩ : ∃ g, w.heap.size = g := ⟨_, rfl⟩
 go_enter Try.func45, Try.ntmps45
 go_upto_region 1 with fail
 have hb2 : Below w.heap.size w ((w.alloc (.cells #[.int .i64 a0_0, .slice A0_1 l0_1.length c0_1] 30)).alloc (.cells #[.int .i64 0, .slice none 0 0] 30)) := below_alloc (below_alloc (Below.refl _ _) _) _
 have k1 : ((w.alloc (.cells #[.int .i64 a0_0, .slice A0_1 l0_1.length c0_1] 30)).alloc (.cells #[.int .i64 0, .slice none 0 0] 30)).heap[g]? = some (.cells #[.int .i64 a0_0, .slice A0_1 l0_1.length c0_1] 30 (0, 0)) := by rw [← hg]; exact blk_alloc (blk_new w _) _
 have k2 : ((w.alloc (.cells #[.int .i64 a0_0, .slice A0_1 l0_1.length c0_1] 30)).alloc (.cells #[.int .i64 0, .slice none 0 0] 30)).heap[g + 1]? = some (.cells #[.int .i64 0, .slice none 0 0] 30 (0, 0)) := by
  have := blk_new (w.alloc (.cells #[.int .i64 a0_0, .slice A0_1 l0_1.length c0_1] 30)) (.cells #[.int .i64 0, .slice none 0 0] 30)
  rwa [show (w.alloc (.cells #[.int .i64 a0_0, .slice A0_1 l0_1.length c0_1] 30)).heap.size = g + 1 by rw [← hg]; show (w.heap.push _).size = _; simp] at this
 generalize (w.alloc (.cells #[.int .i64 a0_0, .slice A0_1 l0_1.length c0_1] 30)).alloc (.cells #[.int .i64 0, .slice none 0 0] 30) = w2 at hb2 k1 k2 ⊢
 have x0 := (blk_cell k1 0).trans (show _ = some (.int .i64 a0_0) from rfl)
 have x1 := (blk_cell k1 1).trans (show _ = some (.slice A0_1 l0_1.length c0_1) from rfl)
 have hcall := hcnf w2 _ (Kd.C_below HR0.out hb2) rfl
 have HB2 := Aside0.mk hb2
 have HK1 := Aside0.mk k1
 have HK2 := Aside0.mk k2
 clear hcnf hb2 k1 k2
 by_cases hc : cnfB a0_0 l0_1 = true
 ·rw [if_pos hc] at h
  rw [hc] at hcall
  by_cases hok : l0_1.length ≤ 4096 ∧ l0_1.all okO = true ∧ ∀ l ∈ keptC l0_1, ∀ x ∈ l, inR x
  rotate_left
  ·rw [if_neg hok] at h; cases h
  rw [if_pos hok] at h
  have HOK := Aside0.mk hok
  clear hok
  cases h
  clear hc
  go_upto_region 3 with (go_at_call 54; refine hcall.mono ?_; rintro e w3 ⟨rfl, hb3⟩; have HB3 := Aside0.mk (HB2.out.trans (hb3.mono HB2.out.size)); have HK13 := Aside0.mk (blk_below HK1.out hb3); have HK23 := Aside0.mk (blk_below HK2.out hb3); clear hb3)
  clear x0 x1 hcall
  have y0 := (blk_cell HK13.out 0).trans (show _ = some (.int .i64 a0_0) from rfl)
  go_upto_region 4 with ((with_reducible refine gate_dst (N := 4) rfl ?_); refine box_event ?hg (N := 4) ?hd (cs := #[.int .i64 0, .slice none 0 0]) (t := 30) ?hr ?_; (case hd => rfl); (case hg => rfl); (case hr => first | (go_simp; done) | (go_simp; rfl)); intro N hN w4 hbox hb4; have HB4 := Aside0.mk (HB3.out.trans (hb4.mono HB3.out.size)); have HK14 := Aside0.mk (blk_below HK13.out hb4); have HK24 := Aside0.mk (blk_below HK23.out hb4); have HN4 := Aside0.mk hbox; have HNs := Aside0.mk (show w.heap.size ≤ N ∧ g + 1 < N from ⟨by rw [hN]; exact HB3.out.size, by rw [hN]; exact blk_lt HK23.out⟩); have n0 := (blk_cell hbox 0).trans (show _ = some (.int .i64 0) from rfl); have n1 := (blk_cell hbox 1).trans (show _ = some (.slice none 0 0) from rfl); have m0 := blk_frozen hbox 0; have m1 := blk_frozen hbox 1; clear hN hbox hb4 y0 HB3 HK13 HK23)
  have hz := heap_set (j := 1) (u := .slice none 0 0) (heap_set (j := 0) (u := .int .i64 a0_0) HN4.out)
  have HZ := Aside0.mk (show ((w4.setCell ⟨N, 0, none⟩ (.int .i64 a0_0)).setCell ⟨N, 1, none⟩ (.slice none 0 0)).heap[N]? = some (.cells #[.int .i64 a0_0, .slice none 0 0] 30 (0, 0)) from hz)
  have hfar : ∀ k o, k ≠ N → w4.heap[k]? = some o → ((w4.setCell ⟨N, 0, none⟩ (.int .i64 a0_0)).setCell ⟨N, 1, none⟩ (.slice none 0 0)).heap[k]? = some o := fun k o hne hk => by
   rw [Below.heap_setCell _ ⟨N, 1, none⟩ _ k hne, Below.heap_setCell _ ⟨N, 0, none⟩ _ k hne]; exact hk
  have HK1 := Aside0.mk (hfar g _ (by have := HNs.out; omega) HK14.out)
  have HK2 := Aside0.mk (hfar (g + 1) _ (by have := HNs.out; omega) HK24.out)
  have HB := Aside0.mk ((HB4.out.setCell (p := ⟨N, 0, none⟩) HNs.out.1 (.int .i64 a0_0)).setCell (p := ⟨N, 1, none⟩) HNs.out.1 (.slice none 0 0))
  clear hz hfar n0 n1 m0 m1 HB4 HK14 HK24 HN4
  generalize (w4.setCell ⟨N, 0, none⟩ (.int .i64 a0_0)).setCell ⟨N, 1, none⟩ (.slice none 0 0) = w5 at HZ HK1 HK2 HB ⊢
  have y1 := (blk_cell HK1.out 1).trans (show _ = some (.slice A0_1 l0_1.length c0_1) from rfl)
  go_wp2
  clear y1 HK1
  have hmax : l0_1.length ≤ 4096 := HOK.out.1
  go_loopg [6, 17] l0_1.length (fun gg v6 v17 wr => ∃ (i : Nat) (v : Value), v17 = .int .i64 i ∧ i ≤ l0_1.length ∧ l0_1.length - i ≤ gg ∧ Aside0 (Kd.S (Kd.slice 3 (Kd.int .i64)) 37 wr w.heap.size (fun _ => True) v (keptC (l0_1.take i))) ∧ Aside0 (wr.heap[N]? = some (.cells #[.int .i64 a0_0, v] 30 (0, 0))) ∧ Aside0 (wr.heap[g + 1]? = some (.cells #[.int .i64 0, .slice none 0 0] 30 (0, 0))) ∧ Aside0 (Below w.heap.size w wr))
  case atStart => exact ⟨0, _, rfl, Nat.zero_le _, by omega, ⟨Kd.S_nil _ _ _ _ _⟩, HZ, HK2, HB⟩
  case round =>
   clear HZ HK2 HB
   obtain ⟨i, v, rfl, hi, hgk, HO, HZ, HK2, HB⟩ := hrel
   obtain ⟨Av, cv, rfl⟩ := Kd.S_slice HO.out
   have hkl : (keptC (l0_1.take i)).length ≤ 4096 := by
    refine Nat.le_trans (List.length_filter_le _ _) ?_
    rw [List.length_map, List.length_take]
    omega
   have HKL := Aside0.mk hkl
   have HVL := Aside0.mk (Kd.S_lt HO.out)
   clear hkl
   by_cases hlt : i < l0_1.length
   ·have hltz : (i : Int) < (l0_1.length : Int) := by omega
    have h0z : (0 : Int) ≤ (i : Int) := by omega
    obtain ⟨ad, A2, c2, ea, hw0, hlc, hC2⟩ := at_L1 HR0.out (i : Int) h0z hltz
    subst ea
    have hrd : rd_L1 l0_1 (i : Int) = l0_1[i] := by unfold rd_L1; simp [List.getD, hlt]
    rw [Int.toNat_natCast, hrd] at hw0
    rw [hrd] at hlc hC2
    have ew : IntKind.i64.wrap ((i : Int) + 1) = ((i + 1 : Nat) : Int) := IntWalk.i64_in _ (by omega)
    have hx0 := (HB.out.cell (World.block_lt_of_cell? w _ hw0)).trans hw0
    have hin := impl_inOrder.calls A2 c2 l0_1[i] (ordL l0_1[i]) wr (Kd.C_below hC2 HB.out) hlc (okO_is (List.all_eq_true.1 HOK.out.2.1 _ (List.getElem_mem hlt)))
    have HKS := Aside0.mk (keptC_snoc (l0_1.take i) l0_1[i])
    rw [← List.take_succ_eq_append_getElem hlt] at HKS
    clear hw0 hC2 hlc hrd
    generalize keptC (l0_1.take i) = kl at HO HZ HKL HVL HKS
    generalize ordL l0_1[i] = x at hin HKS
    generalize l0_1[i] = x0 at hin hx0
    have HOs := Aside0.mk (Kd.S_mono (ok' := fun k => k < wr.heap.size) (Kd.S_bound HO.out) (fun k hk => hk.2.2.1))
    clear HO
    go_upto_region 8 with (go_at_call 85; refine hin.mono ?_; rintro e w6 ⟨v9, rfl, hR9, hb⟩; clear hin; have HB6 := Aside0.mk (HB.out.trans (hb.mono HB.out.size)); have HO6 := Aside0.mk (Kd.S_below HOs.out hb); have HZ6 := Aside0.mk (blk_below HZ.out hb); have HK6 := Aside0.mk (blk_below HK2.out hb); have HR9 := Aside0.mk hR9; have HS6 := Aside0.mk hb.size; have HBR := Aside0.mk HB.out.size; clear hb hR9 HZ HK2 HB HOs)
    obtain ⟨A9, c9, rfl, hc9, hC9⟩ := Kd.R_reads HR9.out
    have hta := impl_isTautology.calls A9 c9 x _ w6 hC9 hc9 rfl
    clear hC9 hx0
    by_cases ht : tautL x = true
    ·rw [if_pos ht] at HKS
     rw [ht] at hta
     go_wp2_with (go_at_call 88; refine hta.mono ?_; rintro e w7 ⟨rfl, hb⟩; clear hta; have HB7 := Aside0.mk (HB6.out.trans (hb.mono HB6.out.size)); have HO7 := Aside0.mk (Kd.S_below HO6.out hb); have HZ7 := Aside0.mk (blk_below HZ6.out hb); have HK7 := Aside0.mk (blk_below HK6.out hb); clear hb HZ6 HK6 HB6 HO6)
     go_roundg (gk - 1)
     case measure => omega
     case rel => exact ⟨i + 1, _, rfl, by omega, by omega, ⟨by rw [HKS.out]; exact Kd.S_mono HO7.out (fun _ _ => trivial)⟩, HZ7, HK7, HB7⟩
    ·rw [if_neg ht] at HKS
     have ht2 : tautL x = false := by simpa using ht
     rw [ht2] at hta
     clear ht ht2
     go_upto_region 9 with (go_at_call 88; refine hta.mono ?_; rintro e w7 ⟨rfl, hb⟩; clear hta; have HB7 := Aside0.mk (HB6.out.trans (hb.mono HB6.out.size)); have HO7 := Aside0.mk (Kd.S_below HO6.out hb); have HR7 := Aside0.mk (Kd.R_below HR9.out hb); have HS67 := Aside0.mk (Nat.le_trans HS6.out hb.size); have HZ7 := Aside0.mk (blk_below HZ6.out hb); have HK7 := Aside0.mk (blk_below HK6.out hb); clear hb HZ6 HK6 HB6 HO6)
     have hbk : wr.heap.size ≤ w7.heap.size := HS67.out
     have n1 := (blk_cell HZ7.out 1).trans (show _ = some (.slice Av kl.length cv) from rfl)
     have HNE := Aside0.mk (blk30_ne HO7.out HZ7.out)
     have HNE2 := Aside0.mk (blk30_ne HO7.out HK7.out)
     have HB0 := HB7.out.size
     go_wp2_with (first | ((with_reducible refine gate_builtin (b := .append) (xs := #[.tmp 27, .tmp 29]) rfl ?_); at_builtin; refine Kd.S_append (W := w7) (Kd.slice 3 (Kd.int .i64)) (w0 := w) w.heap.size rfl (.tmp 27) (.tmp 29) 22 37 (.slice none 0 0) 24 rfl Try.underlying22 info37 rfl (by decide) (by omega) (.slice Av kl.length cv) kl x [.slice A9 x.length c9] (fun _ => True) (fun k => wr.heap.size ≤ k) rfl rfl ?aP ?aK ?aF ?aO ?aB ?aS ?aL ?_; (case aP => exact ⟨_, rfl, Kd.R_mono (Kd.R_lower (Kd.R_bound HR7.out) HBR.out) (fun k hk => hk.2.1)⟩); (case aK => exact (fun k hk => ⟨trivial, fun e => absurd (HVL.out k e.symm) (by omega)⟩)); (case aF => exact (fun _ _ => trivial)); (case aO => exact Kd.S_mono HO7.out (fun k hk => ⟨trivial, by omega⟩)); (case aB => exact HB7.out); (case aS => exact HB7.out.size); (case aL => have := HKL.out; omega); intro v1 w8 ho hb hgr hat; obtain ⟨A8, c8, e8⟩ := Kd.S_slice ho; subst e8; have HO8 := Aside0.mk ho; have HB8 := Aside0.mk hb; have HZ8 := Aside0.mk (blk_grown HZ7.out hgr HNE.out); have HK8 := Aside0.mk (blk_grown HK7.out hgr HNE2.out); have p1 := (blk_cell HZ8.out 1).trans (show _ = some (.slice Av kl.length cv) from rfl); have q1 := blk_frozen HZ8.out 1; clear ho hb hgr hat n1 hbk HO7 HB7 HZ7 HK7))
     clear p1 q1
     go_roundg (gk - 1)
     case measure => omega
     case rel =>
      refine ⟨i + 1, _, rfl, by omega, by omega, ⟨?_⟩, ⟨heap_set HZ8.out⟩, ⟨?_⟩, ⟨HB8.out.setCell (p := ⟨N, 1, none⟩) HNs.out.1 _⟩⟩
      ·have h8 := HO8.out
       rw [show (kl ++ [x]).length = kl.length + 1 by simp] at h8
       rw [HKS.out]
       exact Kd.S_set h8 HZ8.out (by decide) 1 _
      ·rw [Below.heap_setCell _ ⟨N, 1, none⟩ _ (g + 1) (by have := HNs.out; show g + 1 ≠ N; omega)]
       exact HK8.out
   ·obtain rfl : i = l0_1.length := by omega
    rw [List.take_length] at HO HZ HKL HVL
    have hs := sortRows HO.out HOK.out.2.2 HKL.out HB.out.size
    have hce := fun ys v W (h : Kd.S (Kd.slice 3 (Kd.int .i64)) 37 W w.heap.size (fun _ => True) v ys) (hl : ys.length ≤ 4096) (hb : w.heap.size ≤ W.heap.size) => compactRows h hl hb
    have n1 := (blk_cell HZ.out 1).trans (show _ = some (.slice Av (keptC l0_1).length cv) from rfl)
    have HNE := Aside0.mk (blk30_ne HO.out HZ.out)
    have HNE2 := Aside0.mk (blk30_ne HO.out HK2.out)
    have HSC := Aside0.mk (fun ys hp hq => sorted_is (xs := keptC l0_1) (ys := ys) hp hq)
    generalize hkl : keptC l0_1 = kl at hs n1 HNE HNE2 HSC HO HZ HKL HVL
    have HKE := Aside0.mk hkl
    clear hkl
    have HCE := Aside0.mk hce
    clear hce
    go_upto_region 12 with (go_at_call 91; refine hs.mono ?_; rintro e w8 ⟨rfl, ⟨ys, hS, hpm, hst⟩, hb, hkp⟩; clear hs; have HB8 := Aside0.mk (HB.out.trans hb); have HZ8 := Aside0.mk ((hkp N (blk_lt HZ.out) HNE.out).trans HZ.out); have HK8 := Aside0.mk ((hkp (g + 1) (blk_lt HK2.out) HNE2.out).trans HK2.out); have hye := HSC.out ys hpm hst; have HO8 := Aside0.mk hS; have HYL := Aside0.mk (show ys.length ≤ 4096 from by rw [hpm.length_eq]; exact HKL.out); have HYE := Aside0.mk hye; clear hpm hst hkp hb hS hye n1)
    have n1 := (blk_cell HZ8.out 1).trans (show _ = some (.slice Av kl.length cv) from rfl)
    have q1 := blk_frozen HZ8.out 1
    have hcc := HCE.out ys _ w8 HO8.out HYL.out HB8.out.size
    go_upto_region 13 with (go_at_call 93; refine hcc.mono ?_; rintro e w9 ⟨v9, rfl, hS, hb, hkp, -⟩; clear hcc; have HB9 := Aside0.mk (HB8.out.trans hb); have HZ9 := Aside0.mk ((hkp N (blk_lt HZ8.out) HNE.out).trans HZ8.out); have HK9 := Aside0.mk ((hkp (g + 1) (blk_lt HK8.out) HNE2.out).trans HK8.out); obtain ⟨A9, c9, e9⟩ := Kd.S_slice hS; subst e9; have HO9 := Aside0.mk hS; clear n1 q1 hS hb hkp; have n1 := (blk_cell HZ9.out 1).trans (show _ = some (.slice Av kl.length cv) from rfl); have q1 := blk_frozen HZ9.out 1)
    have hz : (w9.setCell ⟨N, 1, none⟩ (.slice A9 (cmpX ys).length c9)).heap[N]? = some (.cells #[.int .i64 a0_0, .slice A9 (cmpX ys).length c9] 30 (0, 0)) := heap_set HZ9.out
    have hk : (w9.setCell ⟨N, 1, none⟩ (.slice A9 (cmpX ys).length c9)).heap[g + 1]? = some (.cells #[.int .i64 0, .slice none 0 0] 30 (0, 0)) := by
     rw [Below.heap_setCell _ ⟨N, 1, none⟩ _ (g + 1) (by have := HNs.out; show g + 1 ≠ N; omega)]
     exact HK9.out
    have HO10 := Aside0.mk (Kd.S_set HO9.out HZ9.out (by decide) 1 (.slice A9 (cmpX ys).length c9))
    have HB10 := Aside0.mk (HB9.out.setCell (p := ⟨N, 1, none⟩) HNs.out.1 (.slice A9 (cmpX ys).length c9))
    generalize w9.setCell ⟨N, 1, none⟩ (.slice A9 (cmpX ys).length c9) = w10 at hz hk HO10 HB10 ⊢
    clear n1 q1 HO9 HB9 HZ9 HK9
    have y0 := (blk_cell hz 0).trans (show _ = some (.int .i64 a0_0) from rfl)
    have y1 := (blk_cell hz 1).trans (show _ = some (.slice A9 (cmpX ys).length c9) from rfl)
    have x0 := (blk_cell hk 0).trans (show _ = some (.int .i64 0) from rfl)
    have x1 := (blk_cell hk 1).trans (show _ = some (.slice none 0 0) from rfl)
    have z0 := blk_frozen hk 0
    have z1 := blk_frozen hk 1
    have HK10 := Aside0.mk hk
    have HZ10 := Aside0.mk hz
    have HG := Aside0.mk (show w.heap.size ≤ g + 1 by omega)
    clear hz hk
    go_wp2
    have hz := heap_set (j := 1) (u := .slice A9 (cmpX ys).length c9) (heap_set (j := 0) (u := .int .i64 a0_0) HK10.out)
    (try simp only [Exit.inBlock, Exit.then])
    refine bodyPost_ret (results_ct rfl _ _ (g + 1) 30 #[.int .i64 a0_0, .slice A9 (cmpX ys).length c9] (0, 0) _ rfl hz Try.underlying30 rfl (by kernel_rfl)) rfl ?_
    refine ⟨_, rfl, ?_, (HB10.out.setCell (p := ⟨g + 1, 0, none⟩) HG.out _).setCell (p := ⟨g + 1, 1, none⟩) HG.out _⟩
    rw [HKE.out, ← HYE.out]
    exact Kd.S_set (Kd.S_set HO10.out HK10.out (by decide) 0 _) (heap_set HK10.out) (by decide) 1 _
 ·rw [if_neg hc] at h
  have hc2 : cnfB a0_0 l0_1 = false := by simpa using hc
  rw [hc2] at hcall
  cases h
  clear hc hc2
  go_upto_region 2 with (go_at_call 54; refine hcall.mono ?_; rintro e w3 ⟨rfl, hb3⟩; have HB3 := Aside0.mk (HB2.out.trans (hb3.mono HB2.out.size)); have HK23 := Aside0.mk (blk_below HK2.out hb3); clear hb3)
  clear x0 x1 hcall
  have y0 := (blk_cell HK23.out 0).trans (show _ = some (.int .i64 0) from rfl)
  have y1 := (blk_cell HK23.out 1).trans (show _ = some (.slice none 0 0) from rfl)
  have z0 := blk_frozen HK23.out 0
  have z1 := blk_frozen HK23.out 1
  go_wp2
  have hz := heap_set (j := 1) (u := .slice none 0 0) (heap_set (j := 0) (u := .int .i64 0) HK23.out)
  have HG := Aside0.mk (show w.heap.size ≤ g + 1 by omega)
  (try simp only [Exit.inBlock, Exit.then])
  refine bodyPost_ret (results_ct rfl _ _ (g + 1) 30 #[.int .i64 0, .slice none 0 0] (0, 0) _ rfl hz Try.underlying30 rfl (by kernel_rfl)) rfl ?_
  exact ⟨_, rfl, Kd.S_nil _ _ _ _ _, (HB3.out.setCell (p := ⟨g + 1, 0, none⟩) HG.out _).setCell (p := ⟨g + 1, 1, none⟩) HG.out _⟩
def spec_l01In.f (a0 : Int) (a1 : Int) (a2 : Int) : Option (Bool) := if a0 ≥ a1 then (some (decide (a0 ≤ a2))) else (some false)
set_option maxHeartbeats 8000000 in
set_option maxRecDepth 100000 in
theorem spec_l01In.calls (a0 : Int) (a1 : Int) (a2 : Int) (r : Bool) (w : World) (h : spec_l01In.f a0 a1 a2 = some r) :
  Calls Try.prog 63 #[.int .i64 a0, .int .i64 a1, .int .i64 a2] w fun e w' => e = .returned (.bool r) ∧ Drawn0 w w' := by
 have H : (if a0 ≥ a1 then (some (decide (a0 ≤ a2))) else (some false)) = some r := h
 clear h
 by_cases c4 : a0 ≥ a1
 ·rw [if_pos c4] at H
  have c4b0 : decide (a1 ≤ a0) = true := decide_eq_true c4
  clear c4
  obtain rfl := Option.some.inj H
  go_enter Try.func63, Try.ntmps63
  go_wp2
  go_ret
  exact ⟨by first | rfl | (simp; done) | (simp [*]; done), by repeat (first | exact Drawn0.refl _ | apply Drawn0.step)⟩
 ·rw [if_neg c4] at H
  have c4b0 : decide (a1 ≤ a0) = false := decide_eq_false c4
  clear c4
  obtain rfl := Option.some.inj H
  go_enter Try.func63, Try.ntmps63
  go_wp2
  go_ret
  exact ⟨by first | rfl | (simp; done) | (simp [*]; done), by repeat (first | exact Drawn0.refl _ | apply Drawn0.step)⟩
def spec_l01Clause.l0 : Nat → List Int → Int → Int → Option (Bool)
 | 0, _, _, _ => none
 | k + 1, x0, x1, x5 => if x5 < (x0.length : Int) then (if 0 ≤ x5 then (if (rd x0 x5) = 0 then (some false) else ((spec_l01In.f (rd x0 x5) (wrap64 (-x1)) x1).bind fun t140 => (if t140 = true then (spec_l01Clause.l0 k x0 x1 (wrap64 (x5 + 1))) else (some false)))) else (none)) else (some true)
def spec_l01Clause.f (k : Nat) (l0 : List Int) (a1 : Int) : Option (Bool) := if (l0.length : Int) > 12 then (some false) else (spec_l01Clause.l0 k l0 a1 0)
set_option maxHeartbeats 8000000 in
set_option maxRecDepth 100000 in
theorem spec_l01Clause.calls (k : Nat) (A0 : Option Addr) (c0 : Nat) (l0 : List Int) (a1 : Int) (r : Bool) (w : World) (hr0 : Kd.C (Kd.int .i64) w A0 l0.length l0) (hc0 : l0.length ≤ c0) (h : spec_l01Clause.f k l0 a1 = some r) :
  Calls Try.prog 59 #[.slice A0 l0.length c0, .int .i64 a1] w fun e w' => e = .returned (.bool r) ∧ Drawn0 w w' := by
 have HR0 := Aside0.mk hr0
 have HC0 := Aside0.mk hc0
 clear hr0 hc0
 have H : (if (l0.length : Int) > 12 then (some false) else (spec_l01Clause.l0 k l0 a1 0)) = some r := h
 clear h
 by_cases c3 : (l0.length : Int) > 12
 ·rw [if_pos c3] at H
  have c3b0 : decide (12 < (l0.length : Int)) = true := decide_eq_true c3
  have c3b1 : decide (12 < l0.length) = true := decide_eq_true (by omega)
  clear c3
  obtain rfl := Option.some.inj H
  go_enter Try.func59, Try.ntmps59
  go_wp2
  go_ret
  exact ⟨by first | rfl | (simp; done) | (simp [*]; done), by repeat (first | exact Drawn0.refl _ | apply Drawn0.step)⟩
 ·rw [if_neg c3] at H
  have c3b0 : decide (12 < (l0.length : Int)) = false := decide_eq_false c3
  have c3b1 : decide (12 < l0.length) = false := decide_eq_false (by omega)
  clear c3
  have H' := Aside0.mk H
  clear H
  go_enter Try.func59, Try.ntmps59
  go_wp2
  go_loopg [5] k (fun kq v5 w' => ∃ (x5_1 : Int), v5 = .int .i64 x5_1 ∧ Aside0 (spec_l01Clause.l0 kq l0 a1 x5_1 = some r) ∧ Aside0 (kq ≤ k) ∧ Drawn0 w w')
  case atStart => exact ⟨(0), (by first | rfl | (simp; done) | (simp [*]; done)), H', ⟨Nat.le_refl _⟩, by repeat (first | exact Drawn0.refl _ | apply Drawn0.step)⟩
  case round =>
   clear H'
   try clear p2
   try clear c3
   try clear c3b0
   try clear c3b1
   obtain ⟨x5_1, rfl, HA, HK1, ⟨m1, rfl⟩⟩ := hrel
   cases gk with
   | zero => exact absurd HA.out (by simp [spec_l01Clause.l0])
   | succ k1 =>
    have H := HA.out
    clear HA
    simp only [spec_l01Clause.l0] at H
    by_cases c4 : x5_1 < (l0.length : Int)
    ·rw [if_pos c4] at H
     have c4b0 : decide (x5_1 < (l0.length : Int)) = true := decide_eq_true c4
     clear c4
     by_cases c5 : 0 ≤ x5_1
     ·rw [if_pos c5] at H
      have c5b0 : decide (0 ≤ x5_1) = true := decide_eq_true c5
      clear c5
      by_cases c6 : (rd l0 x5_1) = 0
      ·rw [if_pos c6] at H
       have c6b0 : ((rd l0 x5_1) == 0) = true := beq_iff_eq.mpr c6
       have c6b1 : ((rd l0 x5_1) != 0) = false := bne_eq_false_iff_eq.mpr c6
       clear c6
       obtain rfl := Option.some.inj H
       have p138 : 0 ≤ (x5_1 : Int) := of_decide_eq_true (by first | (with_reducible assumption) | assumption)
       have q138 : x5_1 < (l0.length : Int) := of_decide_eq_true (by first | (with_reducible assumption) | assumption)
       obtain ⟨ad138, e138, hx138_0⟩ := Kd.at_int HR0.out x5_1 p138 q138
       cases e138
       replace p138 := eq_true p138
       replace q138 := eq_true q138
       go_wp2
       go_ret
       exact ⟨by first | rfl | (simp; done) | (simp [*]; done), by repeat (first | exact Drawn0.refl _ | apply Drawn0.step)⟩
      ·rw [if_neg c6] at H
       have c6b0 : ((rd l0 x5_1) == 0) = false := beq_eq_false_iff_ne.mpr c6
       have c6b1 : ((rd l0 x5_1) != 0) = true := bne_iff_ne.mpr c6
       replace H := Option.bind_eq_some_iff.mp H
       obtain ⟨t140, A70, H⟩ := H
       replace H : (if t140 = true then (spec_l01Clause.l0 k1 l0 a1 (wrap64 (x5_1 + 1))) else (some false)) = some r := H
       have A7 := Aside0.mk A70
       clear A70
       by_cases c8 : t140 = true
       ·subst c8
        have H1 : (spec_l01Clause.l0 k1 l0 a1 (wrap64 (x5_1 + 1))) = some r := by rw [if_pos rfl] at H; exact H
        clear H
        have H := H1
        clear H1
        have H' := Aside0.mk H
        clear H
        have p138 : 0 ≤ (x5_1 : Int) := of_decide_eq_true (by first | (with_reducible assumption) | assumption)
        have q138 : x5_1 < (l0.length : Int) := of_decide_eq_true (by first | (with_reducible assumption) | assumption)
        obtain ⟨ad138, e138, hx138_0⟩ := Kd.at_int HR0.out x5_1 p138 q138
        cases e138
        replace p138 := eq_true p138
        replace q138 := eq_true q138
        have p139 : 0 ≤ (x5_1 : Int) := of_decide_eq_true (by first | (with_reducible assumption) | assumption)
        have q139 : x5_1 < (l0.length : Int) := of_decide_eq_true (by first | (with_reducible assumption) | assumption)
        obtain ⟨ad139, e139, hx139_0⟩ := Kd.at_int HR0.out x5_1 p139 q139
        obtain rfl : ad138 = ad139 := (by injection e139)
        replace p139 := eq_true p139
        replace q139 := eq_true q139
        go_wp2_with (first | (go_at_call 63; (with_reducible refine (spec_l01In.calls (rd l0 x5_1) (wrap64 (-a1)) a1 true _ A7.out).mono ?_); rintro e w' ⟨rfl, ⟨nd, rfl⟩⟩))
        go_roundg k1
        case measure => have := HK1.out; omega
        case rel => exact ⟨(wrap64 (x5_1 + 1)), (by first | rfl | (simp; done) | (simp [*]; done)), H', ⟨by have := HK1.out; omega⟩, by repeat (first | exact Drawn0.refl _ | apply Drawn0.step)⟩
       ·replace c8 := Bool.eq_false_iff.mpr c8
        subst c8
        have H1 : (some false) = some r := by rw [if_neg (show ¬ (false = true) by decide)] at H; exact H
        clear H
        have H := H1
        clear H1
        obtain rfl := Option.some.inj H
        have p138 : 0 ≤ (x5_1 : Int) := of_decide_eq_true (by first | (with_reducible assumption) | assumption)
        have q138 : x5_1 < (l0.length : Int) := of_decide_eq_true (by first | (with_reducible assumption) | assumption)
        obtain ⟨ad138, e138, hx138_0⟩ := Kd.at_int HR0.out x5_1 p138 q138
        cases e138
        replace p138 := eq_true p138
        replace q138 := eq_true q138
        have p139 : 0 ≤ (x5_1 : Int) := of_decide_eq_true (by first | (with_reducible assumption) | assumption)
        have q139 : x5_1 < (l0.length : Int) := of_decide_eq_true (by first | (with_reducible assumption) | assumption)
        obtain ⟨ad139, e139, hx139_0⟩ := Kd.at_int HR0.out x5_1 p139 q139
        obtain rfl : ad138 = ad139 := (by injection e139)
        replace p139 := eq_true p139
        replace q139 := eq_true q139
        go_wp2_with (first | (go_at_call 63; (with_reducible refine (spec_l01In.calls (rd l0 x5_1) (wrap64 (-a1)) a1 false _ A7.out).mono ?_); rintro e w' ⟨rfl, ⟨nd, rfl⟩⟩))
        go_ret
        exact ⟨by first | rfl | (simp; done) | (simp [*]; done), by repeat (first | exact Drawn0.refl _ | apply Drawn0.step)⟩
     ·rw [if_neg c5] at H
      exact absurd H (by simp)
    ·rw [if_neg c4] at H
     have c4b0 : decide (x5_1 < (l0.length : Int)) = false := decide_eq_false c4
     clear c4
     obtain rfl := Option.some.inj H
     go_wp2
     go_ret
     exact ⟨by first | rfl | (simp; done) | (simp [*]; done), by repeat (first | exact Drawn0.refl _ | apply Drawn0.step)⟩
mutual
def spec_CnfOK.j0 : Nat → Bool → Int → List (List Int) → Option (Bool)
 | 0, _, _, _ => none
 | k + 1, x13, x142000, x142001 => if x13 = true then (some false) else (spec_CnfOK.l0 k 0 x142000 x142001)
def spec_CnfOK.l0 : Nat → Int → Int → List (List Int) → Option (Bool)
 | 0, _, _, _ => none
 | k + 1, x3, x142000, x142001 => if x3 < (x142001.length : Int) then (if 0 ≤ x3 then ((spec_l01Clause.f k (rd_L1 x142001 x3) x142000).bind fun t144 => (if t144 = true then (spec_CnfOK.l0 k (wrap64 (x3 + 1)) x142000 x142001) else (some false))) else (none)) else (some true)
end
def spec_CnfOK.f (k : Nat) (a0_0 : Int) (l0_1 : List (List Int)) : Option (Bool) := (spec_l01In.f a0_0 0 40).bind fun t142 => (if t142 = true then (spec_CnfOK.j0 k (decide ((l0_1.length : Int) > 300)) a0_0 l0_1) else (spec_CnfOK.j0 k true a0_0 l0_1))
set_option maxHeartbeats 8000000 in
set_option maxRecDepth 100000 in
theorem spec_CnfOK.calls (k : Nat) (a0_0 : Int) (A0_1 : Option Addr) (c0_1 : Nat) (l0_1 : List (List Int)) (r : Bool) (w : World) (hr0_1 : Kd.C (Kd.slice 3 (Kd.int .i64)) w A0_1 l0_1.length l0_1) (hc0_1 : l0_1.length ≤ c0_1) (h : spec_CnfOK.f k a0_0 l0_1 = some r) :
  Calls Try.prog 49 #[.agg #[.int .i64 a0_0, .slice A0_1 l0_1.length c0_1]] w fun e w' => e = .returned (.bool r) ∧ Below w.heap.size w w' := by
 have hu30 := Try.underlying30
 have HR0_1 := Aside0.mk hr0_1
 have HC0_1 := Aside0.mk hc0_1
 clear hr0_1 hc0_1
 have HB := Aside0.mk (Below.refl w.heap.size w)
 have H : ((spec_l01In.f a0_0 0 40).bind fun t142 => (if t142 = true then (spec_CnfOK.j0 k (decide ((l0_1.length : Int) > 300)) a0_0 l0_1) else (spec_CnfOK.j0 k true a0_0 l0_1))) = some r := h
 clear h
 have HC2 := Aside0.mk H
 clear H
 go_enter Try.func49, Try.ntmps49
 go_upto_region 1 with (first | ((with_reducible refine gate_dst (N := 1) rfl ?_); (try (refine gate_guard (by rfl) ?_; dsimp only)); refine box_event ?hg (N := 1) ?hd (cs := #[.int .i64 a0_0, .slice A0_1 l0_1.length c0_1]) (t := 30) ?hr ?_; (case hd => rfl); (case hg => rfl); (case hr => first | (go_simp; done) | (go_simp; rfl)); intro gb141 hg w3 hbox hb; have n0_ := Aside0.mk (below_step (by repeat (first | (with_reducible first | exact HB.out | apply below_alloc | apply pw_below_drewN | apply below_drew1) | exact HB.out)) hb); have n1_ := Aside0.mk (hbox); have n2_ := Aside0.mk ((by rw [hg]; exact (below_size (by repeat (first | (with_reducible first | exact HB.out | apply below_alloc | apply pw_below_drewN | apply below_drew1) | exact HB.out))) : w.heap.size ≤ gb141)); have n3_ := Aside0.mk ((by rw [hg]; exact (below_size (by repeat (first | (with_reducible first | exact HB.out | apply below_alloc | apply pw_below_drewN | apply below_drew1) | exact HB.out))) : w.heap.size ≤ gb141)); clear HB; have HB := n0_; have BK141 := n1_; have GW141 := n2_; have GE141 := n3_; clear n0_ n1_ n2_ n3_; clear hb hbox hg))
 repeat (go_quiet (first | ((with_reducible refine gate_dst (N := 1) rfl ?_); (try (refine gate_guard (by rfl) ?_; dsimp only)); refine box_event ?hg (N := 1) ?hd (cs := #[.int .i64 a0_0, .slice A0_1 l0_1.length c0_1]) (t := 30) ?hr ?_; (case hd => rfl); (case hg => rfl); (case hr => first | (go_simp; done) | (go_simp; rfl)); intro gb141 hg w3 hbox hb; have n0_ := Aside0.mk (below_step (by repeat (first | (with_reducible first | exact HB.out | apply below_alloc | apply pw_below_drewN | apply below_drew1) | exact HB.out)) hb); have n1_ := Aside0.mk (hbox); have n2_ := Aside0.mk ((by rw [hg]; exact (below_size (by repeat (first | (with_reducible first | exact HB.out | apply below_alloc | apply pw_below_drewN | apply below_drew1) | exact HB.out))) : w.heap.size ≤ gb141)); have n3_ := Aside0.mk ((by rw [hg]; exact (below_size (by repeat (first | (with_reducible first | exact HB.out | apply below_alloc | apply pw_below_drewN | apply below_drew1) | exact HB.out))) : w.heap.size ≤ gb141)); clear HB; have HB := n0_; have BK141 := n1_; have GW141 := n2_; have GE141 := n3_; clear n0_ n1_ n2_ n3_; clear hb hbox hg)); go_upto_region 1 with (first | ((with_reducible refine gate_dst (N := 1) rfl ?_); (try (refine gate_guard (by rfl) ?_; dsimp only)); refine box_event ?hg (N := 1) ?hd (cs := #[.int .i64 a0_0, .slice A0_1 l0_1.length c0_1]) (t := 30) ?hr ?_; (case hd => rfl); (case hg => rfl); (case hr => first | (go_simp; done) | (go_simp; rfl)); intro gb141 hg w3 hbox hb; have n0_ := Aside0.mk (below_step (by repeat (first | (with_reducible first | exact HB.out | apply below_alloc | apply pw_below_drewN | apply below_drew1) | exact HB.out)) hb); have n1_ := Aside0.mk (hbox); have n2_ := Aside0.mk ((by rw [hg]; exact (below_size (by repeat (first | (with_reducible first | exact HB.out | apply below_alloc | apply pw_below_drewN | apply below_drew1) | exact HB.out))) : w.heap.size ≤ gb141)); have n3_ := Aside0.mk ((by rw [hg]; exact (below_size (by repeat (first | (with_reducible first | exact HB.out | apply below_alloc | apply pw_below_drewN | apply below_drew1) | exact HB.out))) : w.heap.size ≤ gb141)); clear HB; have HB := n0_; have BK141 := n1_; have GW141 := n2_; have GE141 := n3_; clear n0_ n1_ n2_ n3_; clear hb hbox hg)))
 (try simp only [Act.put, List.setIfInBounds_toArray, List.set_cons_zero, List.set_cons_succ])
 go_cut [13] (fun v13 wc => ∃ (kq : Nat) (x13_1 : Bool), v13 = .bool x13_1 ∧ Aside0 (spec_CnfOK.j0 kq x13_1 a0_0 l0_1 = some r) ∧ Aside0 (kq ≤ k) ∧ Aside0 (wc.heap[gb141]? = some (.cells #[.int .i64 a0_0, (.slice A0_1 l0_1.length c0_1)] 30 (0, 0))) ∧ Aside0 (Below w.heap.size w wc))
 case first =>
  have H := HC2.out
  clear HC2
  replace H := Option.bind_eq_some_iff.mp H
  obtain ⟨t142, A40, H⟩ := H
  replace H : (if t142 = true then (spec_CnfOK.j0 k (decide ((l0_1.length : Int) > 300)) a0_0 l0_1) else (spec_CnfOK.j0 k true a0_0 l0_1)) = some r := H
  have A4 := Aside0.mk A40
  clear A40
  by_cases c5 : t142 = true
  ·subst c5
   have H1 : (spec_CnfOK.j0 k (decide ((l0_1.length : Int) > 300)) a0_0 l0_1) = some r := by rw [if_pos rfl] at H; exact H
   clear H
   have H := H1
   clear H1
   have H' := Aside0.mk H
   clear H
   have hcz6_0 : w3.cell? ⟨gb141, 0, none⟩ = some (.int .i64 a0_0) := (blk_cell BK141.out 0).trans rfl
   have hcz6_1 : w3.cell? ⟨gb141, 1, none⟩ = some (.slice A0_1 l0_1.length c0_1) := (blk_cell BK141.out 1).trans rfl
   have hfz6_0 := blk_frozen BK141.out 0
   have hfz6_1 := blk_frozen BK141.out 1
   go_wp2_with (first | (go_at_call 63; (with_reducible refine (spec_l01In.calls a0_0 0 40 true _ A4.out).mono ?_); rintro e w' ⟨rfl, ⟨nd, rfl⟩⟩; (try first | exact ⟨rfl, _, World.drewN_drewN _ _ _⟩ | exact ⟨rfl, _, Eq.trans (World.drewN_drewN _ _ _) (congrArg (World.drewN _) (Nat.add_assoc _ _ _))⟩)))
   repeat (go_quiet (first | (go_at_call 63; (with_reducible refine (spec_l01In.calls a0_0 0 40 true _ A4.out).mono ?_); rintro e w' ⟨rfl, ⟨nd, rfl⟩⟩; (try first | exact ⟨rfl, _, World.drewN_drewN _ _ _⟩ | exact ⟨rfl, _, Eq.trans (World.drewN_drewN _ _ _) (congrArg (World.drewN _) (Nat.add_assoc _ _ _))⟩))); try go_wp2_with (first | (go_at_call 63; (with_reducible refine (spec_l01In.calls a0_0 0 40 true _ A4.out).mono ?_); rintro e w' ⟨rfl, ⟨nd, rfl⟩⟩; (try first | exact ⟨rfl, _, World.drewN_drewN _ _ _⟩ | exact ⟨rfl, _, Eq.trans (World.drewN_drewN _ _ _) (congrArg (World.drewN _) (Nat.add_assoc _ _ _))⟩))))
   go_meet
   case rel => exact ⟨_, (decide ((l0_1.length : Int) > 300)), (by first | rfl | (simp; done) | (simp [*]; done)), H', ⟨by first | omega | exact Nat.le_refl _⟩, ⟨by (with_reducible repeat (first | refine blk_drewN ?_ _ | refine blk_drew ?_ | refine blk_alloc ?_ _)); exact BK141.out⟩, ⟨by repeat (first | (with_reducible first | exact HB.out | apply below_alloc | apply pw_below_drewN | apply below_drew1 | refine below_set ?_ GE141.out) | exact HB.out)⟩⟩
  ·replace c5 := Bool.eq_false_iff.mpr c5
   subst c5
   have H1 : (spec_CnfOK.j0 k true a0_0 l0_1) = some r := by rw [if_neg (show ¬ (false = true) by decide)] at H; exact H
   clear H
   have H := H1
   clear H1
   have H' := Aside0.mk H
   clear H
   have hcz7_0 : w3.cell? ⟨gb141, 0, none⟩ = some (.int .i64 a0_0) := (blk_cell BK141.out 0).trans rfl
   have hcz7_1 : w3.cell? ⟨gb141, 1, none⟩ = some (.slice A0_1 l0_1.length c0_1) := (blk_cell BK141.out 1).trans rfl
   have hfz7_0 := blk_frozen BK141.out 0
   have hfz7_1 := blk_frozen BK141.out 1
   go_wp2_with (first | (go_at_call 63; (with_reducible refine (spec_l01In.calls a0_0 0 40 false _ A4.out).mono ?_); rintro e w' ⟨rfl, ⟨nd, rfl⟩⟩; (try first | exact ⟨rfl, _, World.drewN_drewN _ _ _⟩ | exact ⟨rfl, _, Eq.trans (World.drewN_drewN _ _ _) (congrArg (World.drewN _) (Nat.add_assoc _ _ _))⟩)))
   repeat (go_quiet (first | (go_at_call 63; (with_reducible refine (spec_l01In.calls a0_0 0 40 false _ A4.out).mono ?_); rintro e w' ⟨rfl, ⟨nd, rfl⟩⟩; (try first | exact ⟨rfl, _, World.drewN_drewN _ _ _⟩ | exact ⟨rfl, _, Eq.trans (World.drewN_drewN _ _ _) (congrArg (World.drewN _) (Nat.add_assoc _ _ _))⟩))); try go_wp2_with (first | (go_at_call 63; (with_reducible refine (spec_l01In.calls a0_0 0 40 false _ A4.out).mono ?_); rintro e w' ⟨rfl, ⟨nd, rfl⟩⟩; (try first | exact ⟨rfl, _, World.drewN_drewN _ _ _⟩ | exact ⟨rfl, _, Eq.trans (World.drewN_drewN _ _ _) (congrArg (World.drewN _) (Nat.add_assoc _ _ _))⟩))))
   go_meet
   case rel => exact ⟨_, (true), (by first | rfl | (simp; done) | (simp [*]; done)), H', ⟨by first | omega | exact Nat.le_refl _⟩, ⟨by (with_reducible repeat (first | refine blk_drewN ?_ _ | refine blk_drew ?_ | refine blk_alloc ?_ _)); exact BK141.out⟩, ⟨by repeat (first | (with_reducible first | exact HB.out | apply below_alloc | apply pw_below_drewN | apply below_drew1 | refine below_set ?_ GE141.out) | exact HB.out)⟩⟩
 case rest =>
  clear HC2
  try clear p2
  try clear c4
  try clear c5
  try clear hcz6_0
  try clear hcz6_1
  try clear hcz7_0
  try clear hcz7_1
  try clear hfz6_0
  try clear hfz6_1
  try clear hfz7_0
  try clear hfz7_1
  obtain ⟨kq, x13_1, rfl, HA, HJ1, BK141, HB⟩ := hcut
  cases kq with
  | zero => exact absurd HA.out (by simp [spec_CnfOK.j0])
  | succ kj1 =>
   have H := HA.out
   clear HA
   simp only [spec_CnfOK.j0] at H
   by_cases c8 : x13_1 = true
   ·subst c8
    have H1 : (some false) = some r := by rw [if_pos rfl] at H; exact H
    clear H
    have H := H1
    clear H1
    obtain rfl := Option.some.inj H
    go_wp2
    repeat (go_quiet (fail); try go_wp2)
    go_ret
    exact ⟨by first | rfl | (simp [errW_none, errW_some] <;> rfl) | (simp [*, errW_none, errW_some] <;> rfl), by repeat (first | (with_reducible first | exact HB.out | apply below_alloc | apply pw_below_drewN | apply below_drew1 | refine below_set ?_ GE141.out) | exact HB.out)⟩
   ·replace c8 := Bool.eq_false_iff.mpr c8
    subst c8
    have H1 : (spec_CnfOK.l0 kj1 0 a0_0 l0_1) = some r := by rw [if_neg (show ¬ (false = true) by decide)] at H; exact H
    clear H
    have H := H1
    clear H1
    have H' := Aside0.mk H
    clear H
    go_wp2
    repeat (go_quiet (fail); try go_wp2)
    go_loopg [3] kj1 (fun kq v3 w' => ∃ (x3_2 : Int), v3 = .int .i64 x3_2 ∧ Aside0 (spec_CnfOK.l0 kq x3_2 a0_0 l0_1 = some r) ∧ Aside0 (kq ≤ kj1) ∧ Aside0 (w'.heap[gb141]? = some (.cells #[.int .i64 a0_0, (.slice A0_1 l0_1.length c0_1)] 30 (0, 0))) ∧ Aside0 (Below w.heap.size w w'))
    case atStart => exact ⟨(0), (by first | rfl | (simp; done) | (simp [*]; done)), H', ⟨Nat.le_refl _⟩, ⟨by (with_reducible repeat (first | refine blk_drewN ?_ _ | refine blk_drew ?_ | refine blk_alloc ?_ _)); exact BK141.out⟩, ⟨by repeat (first | (with_reducible first | exact HB.out | apply below_alloc | apply pw_below_drewN | apply below_drew1 | refine below_set ?_ GE141.out) | exact HB.out)⟩⟩
    case round =>
     clear H'
     try clear p2
     try clear c4
     try clear c5
     try clear c8
     try clear hcz6_0
     try clear hcz6_1
     try clear hcz7_0
     try clear hcz7_1
     try clear hfz6_0
     try clear hfz6_1
     try clear hfz7_0
     try clear hfz7_1
     try clear p2
     obtain ⟨x3_2, rfl, HA, HK2, BK141, HB⟩ := hrel
     cases gk with
     | zero => exact absurd HA.out (by simp [spec_CnfOK.l0])
     | succ k2 =>
      have H := HA.out
      clear HA
      simp only [spec_CnfOK.l0] at H
      by_cases c9 : x3_2 < (l0_1.length : Int)
      ·rw [if_pos c9] at H
       have c9b0 : decide (x3_2 < (l0_1.length : Int)) = true := decide_eq_true c9
       clear c9
       by_cases c10 : 0 ≤ x3_2
       ·rw [if_pos c10] at H
        have c10b0 : decide (0 ≤ x3_2) = true := decide_eq_true c10
        clear c10
        replace H := Option.bind_eq_some_iff.mp H
        obtain ⟨t144, A110, H⟩ := H
        replace H : (if t144 = true then (spec_CnfOK.l0 k2 (wrap64 (x3_2 + 1)) a0_0 l0_1) else (some false)) = some r := H
        have A11 := Aside0.mk A110
        clear A110
        by_cases c12 : t144 = true
        ·subst c12
         have H1 : (spec_CnfOK.l0 k2 (wrap64 (x3_2 + 1)) a0_0 l0_1) = some r := by rw [if_pos rfl] at H; exact H
         clear H
         have H := H1
         clear H1
         have H' := Aside0.mk H
         clear H
         have hcz13_0 : wr.cell? ⟨gb141, 0, none⟩ = some (.int .i64 a0_0) := (blk_cell BK141.out 0).trans rfl
         have hcz13_1 : wr.cell? ⟨gb141, 1, none⟩ = some (.slice A0_1 l0_1.length c0_1) := (blk_cell BK141.out 1).trans rfl
         have hfz13_0 := blk_frozen BK141.out 0
         have hfz13_1 := blk_frozen BK141.out 1
         have p143 : 0 ≤ (x3_2 : Int) := of_decide_eq_true (by first | (with_reducible assumption) | assumption)
         have q143 : x3_2 < (l0_1.length : Int) := of_decide_eq_true (by first | (with_reducible assumption) | assumption)
         obtain ⟨ad143, A143_0, c143_0, e143, hx143_0, hl143_0, hi143_0⟩ := at_L1 HR0_1.out x3_2 p143 q143
         cases e143
         replace hx143_0 := (HB.out.cell (World.block_lt_of_cell? w _ hx143_0)).trans hx143_0
         have HR143_0 := Aside0.mk hi143_0
         have HC143_0 := Aside0.mk hl143_0
         clear hi143_0 hl143_0
         replace p143 := eq_true p143
         replace q143 := eq_true q143
         go_wp2_with (first | (go_at_call 59; (with_reducible refine (spec_l01Clause.calls k2 _ _ (rd_L1 l0_1 x3_2) a0_0 true _ ?side1 ?side2 A11.out).mono ?_); (case side1 => repeat (first | exact (Kd.C_below HR143_0.out HB.out) | (with_reducible refine Kd.C_alloc ?_ _) | (with_reducible refine Kd.C_drewN ?_ _) | (with_reducible refine Kd.C_drew ?_))); (case side2 => exact HC143_0.out); rintro e w' ⟨rfl, ⟨nd, rfl⟩⟩; (try first | exact ⟨rfl, _, World.drewN_drewN _ _ _⟩ | exact ⟨rfl, _, Eq.trans (World.drewN_drewN _ _ _) (congrArg (World.drewN _) (Nat.add_assoc _ _ _))⟩)))
         repeat (go_quiet (first | (go_at_call 59; (with_reducible refine (spec_l01Clause.calls k2 _ _ (rd_L1 l0_1 x3_2) a0_0 true _ ?side1 ?side2 A11.out).mono ?_); (case side1 => repeat (first | exact (Kd.C_below HR143_0.out HB.out) | (with_reducible refine Kd.C_alloc ?_ _) | (with_reducible refine Kd.C_drewN ?_ _) | (with_reducible refine Kd.C_drew ?_))); (case side2 => exact HC143_0.out); rintro e w' ⟨rfl, ⟨nd, rfl⟩⟩; (try first | exact ⟨rfl, _, World.drewN_drewN _ _ _⟩ | exact ⟨rfl, _, Eq.trans (World.drewN_drewN _ _ _) (congrArg (World.drewN _) (Nat.add_assoc _ _ _))⟩))); try go_wp2_with (first | (go_at_call 59; (with_reducible refine (spec_l01Clause.calls k2 _ _ (rd_L1 l0_1 x3_2) a0_0 true _ ?side1 ?side2 A11.out).mono ?_); (case side1 => repeat (first | exact (Kd.C_below HR143_0.out HB.out) | (with_reducible refine Kd.C_alloc ?_ _) | (with_reducible refine Kd.C_drewN ?_ _) | (with_reducible refine Kd.C_drew ?_))); (case side2 => exact HC143_0.out); rintro e w' ⟨rfl, ⟨nd, rfl⟩⟩; (try first | exact ⟨rfl, _, World.drewN_drewN _ _ _⟩ | exact ⟨rfl, _, Eq.trans (World.drewN_drewN _ _ _) (congrArg (World.drewN _) (Nat.add_assoc _ _ _))⟩))))
         go_roundg k2
         case measure => have := HJ1.out; have := HK2.out; omega
         case rel => exact ⟨(wrap64 (x3_2 + 1)), (by first | rfl | (simp; done) | (simp [*]; done)), H', ⟨by have := HJ1.out; have := HK2.out; omega⟩, ⟨by (with_reducible repeat (first | refine blk_drewN ?_ _ | refine blk_drew ?_ | refine blk_alloc ?_ _)); exact BK141.out⟩, ⟨by repeat (first | (with_reducible first | exact HB.out | apply below_alloc | apply pw_below_drewN | apply below_drew1 | refine below_set ?_ GE141.out) | exact HB.out)⟩⟩
        ·replace c12 := Bool.eq_false_iff.mpr c12
         subst c12
         have H1 : (some false) = some r := by rw [if_neg (show ¬ (false = true) by decide)] at H; exact H
         clear H
         have H := H1
         clear H1
         obtain rfl := Option.some.inj H
         have hcz14_0 : wr.cell? ⟨gb141, 0, none⟩ = some (.int .i64 a0_0) := (blk_cell BK141.out 0).trans rfl
         have hcz14_1 : wr.cell? ⟨gb141, 1, none⟩ = some (.slice A0_1 l0_1.length c0_1) := (blk_cell BK141.out 1).trans rfl
         have hfz14_0 := blk_frozen BK141.out 0
         have hfz14_1 := blk_frozen BK141.out 1
         have p143 : 0 ≤ (x3_2 : Int) := of_decide_eq_true (by first | (with_reducible assumption) | assumption)
         have q143 : x3_2 < (l0_1.length : Int) := of_decide_eq_true (by first | (with_reducible assumption) | assumption)
         obtain ⟨ad143, A143_0, c143_0, e143, hx143_0, hl143_0, hi143_0⟩ := at_L1 HR0_1.out x3_2 p143 q143
         cases e143
         replace hx143_0 := (HB.out.cell (World.block_lt_of_cell? w _ hx143_0)).trans hx143_0
         have HR143_0 := Aside0.mk hi143_0
         have HC143_0 := Aside0.mk hl143_0
         clear hi143_0 hl143_0
         replace p143 := eq_true p143
         replace q143 := eq_true q143
         go_wp2_with (first | (go_at_call 59; (with_reducible refine (spec_l01Clause.calls k2 _ _ (rd_L1 l0_1 x3_2) a0_0 false _ ?side1 ?side2 A11.out).mono ?_); (case side1 => repeat (first | exact (Kd.C_below HR143_0.out HB.out) | (with_reducible refine Kd.C_alloc ?_ _) | (with_reducible refine Kd.C_drewN ?_ _) | (with_reducible refine Kd.C_drew ?_))); (case side2 => exact HC143_0.out); rintro e w' ⟨rfl, ⟨nd, rfl⟩⟩; (try first | exact ⟨rfl, _, World.drewN_drewN _ _ _⟩ | exact ⟨rfl, _, Eq.trans (World.drewN_drewN _ _ _) (congrArg (World.drewN _) (Nat.add_assoc _ _ _))⟩)))
         repeat (go_quiet (first | (go_at_call 59; (with_reducible refine (spec_l01Clause.calls k2 _ _ (rd_L1 l0_1 x3_2) a0_0 false _ ?side1 ?side2 A11.out).mono ?_); (case side1 => repeat (first | exact (Kd.C_below HR143_0.out HB.out) | (with_reducible refine Kd.C_alloc ?_ _) | (with_reducible refine Kd.C_drewN ?_ _) | (with_reducible refine Kd.C_drew ?_))); (case side2 => exact HC143_0.out); rintro e w' ⟨rfl, ⟨nd, rfl⟩⟩; (try first | exact ⟨rfl, _, World.drewN_drewN _ _ _⟩ | exact ⟨rfl, _, Eq.trans (World.drewN_drewN _ _ _) (congrArg (World.drewN _) (Nat.add_assoc _ _ _))⟩))); try go_wp2_with (first | (go_at_call 59; (with_reducible refine (spec_l01Clause.calls k2 _ _ (rd_L1 l0_1 x3_2) a0_0 false _ ?side1 ?side2 A11.out).mono ?_); (case side1 => repeat (first | exact (Kd.C_below HR143_0.out HB.out) | (with_reducible refine Kd.C_alloc ?_ _) | (with_reducible refine Kd.C_drewN ?_ _) | (with_reducible refine Kd.C_drew ?_))); (case side2 => exact HC143_0.out); rintro e w' ⟨rfl, ⟨nd, rfl⟩⟩; (try first | exact ⟨rfl, _, World.drewN_drewN _ _ _⟩ | exact ⟨rfl, _, Eq.trans (World.drewN_drewN _ _ _) (congrArg (World.drewN _) (Nat.add_assoc _ _ _))⟩))))
         go_ret
         exact ⟨by first | rfl | (simp [errW_none, errW_some] <;> rfl) | (simp [*, errW_none, errW_some] <;> rfl), by repeat (first | (with_reducible first | exact HB.out | apply below_alloc | apply pw_below_drewN | apply below_drew1 | refine below_set ?_ GE141.out) | exact HB.out)⟩
       ·rw [if_neg c10] at H
        exact absurd H (by simp)
      ·rw [if_neg c9] at H
       have c9b0 : decide (x3_2 < (l0_1.length : Int)) = false := decide_eq_false c9
       clear c9
       obtain rfl := Option.some.inj H
       have hcz15_0 : wr.cell? ⟨gb141, 0, none⟩ = some (.int .i64 a0_0) := (blk_cell BK141.out 0).trans rfl
       have hcz15_1 : wr.cell? ⟨gb141, 1, none⟩ = some (.slice A0_1 l0_1.length c0_1) := (blk_cell BK141.out 1).trans rfl
       have hfz15_0 := blk_frozen BK141.out 0
       have hfz15_1 := blk_frozen BK141.out 1
       go_wp2
       repeat (go_quiet (fail); try go_wp2)
       go_ret
       exact ⟨by first | rfl | (simp [errW_none, errW_some] <;> rfl) | (simp [*, errW_none, errW_some] <;> rfl), by repeat (first | (with_reducible first | exact HB.out | apply below_alloc | apply pw_below_drewN | apply below_drew1 | refine below_set ?_ GE141.out) | exact HB.out)⟩
def spec_l01Abs.f (a0 : Int) : Option (Int) := some (mx a0 (wrap64 (-a0)))
set_option maxHeartbeats 8000000 in
set_option maxRecDepth 100000 in
theorem spec_l01Abs.calls (a0 : Int) (r : Int) (w : World) (h : spec_l01Abs.f a0 = some r) :
  Calls Try.prog 64 #[.int .i64 a0] w fun e w' => e = .returned (.int .i64 r) ∧ Below w.heap.size w w' := by
 have HB := Aside0.mk (Below.refl w.heap.size w)
 have H : (some (mx a0 (wrap64 (-a0)))) = some r := h
 clear h
 obtain ⟨ji2, hji2⟩ : ∃ j_ : Int, (mx a0 (wrap64 (-a0))) = j_ := ⟨_, rfl⟩
 replace H : (some ji2) = some r := by first | (rw [hji2] at H; exact H) | (simp only [hji2] at H ⊢; exact H)
 have hji2_ : (if a0 < (wrap64 (-a0)) then (wrap64 (-a0)) else a0) = ji2 := hji2
 obtain rfl := Option.some.inj H
 go_enter Try.func64, Try.ntmps64
 go_wp2
 go_ret
 exact ⟨by first | rfl | (simp [errW_none, errW_some] <;> rfl) | (simp only [← hji2]; first | rfl | (simp [errW_none, errW_some] <;> rfl)) | (simp [*, errW_none, errW_some] <;> rfl), by repeat (first | (with_reducible first | exact HB.out | apply below_alloc | apply pw_below_drewN | apply below_drew1) | exact HB.out)⟩
def spec_l01Before.f (a0 : Int) (a1 : Int) : Option (Bool) := (spec_l01Abs.f a0).bind fun t145 => ((spec_l01Abs.f a1).bind fun t146 => (if t145 = t146 then (some (decide (a0 > a1))) else ((spec_l01Abs.f a0).bind fun t147 => ((spec_l01Abs.f a1).bind fun t148 => (some (decide (t147 < t148)))))))
set_option maxHeartbeats 8000000 in
set_option maxRecDepth 100000 in
theorem spec_l01Before.calls (a0 : Int) (a1 : Int) (r : Bool) (w : World) (h : spec_l01Before.f a0 a1 = some r) :
  Calls Try.prog 111 #[.int .i64 a0, .int .i64 a1] w fun e w' => e = .returned (.bool r) ∧ Below w.heap.size w w' := by
 have HB := Aside0.mk (Below.refl w.heap.size w)
 have H : ((spec_l01Abs.f a0).bind fun t145 => ((spec_l01Abs.f a1).bind fun t146 => (if t145 = t146 then (some (decide (a0 > a1))) else ((spec_l01Abs.f a0).bind fun t147 => ((spec_l01Abs.f a1).bind fun t148 => (some (decide (t147 < t148)))))))) = some r := h
 clear h
 replace H := Option.bind_eq_some_iff.mp H
 obtain ⟨t145, A30, H⟩ := H
 replace H : ((spec_l01Abs.f a1).bind fun t146 => (if t145 = t146 then (some (decide (a0 > a1))) else ((spec_l01Abs.f a0).bind fun t147 => ((spec_l01Abs.f a1).bind fun t148 => (some (decide (t147 < t148))))))) = some r := H
 have A3 := Aside0.mk A30
 clear A30
 replace H := Option.bind_eq_some_iff.mp H
 obtain ⟨t146, A40, H⟩ := H
 replace H : (if t145 = t146 then (some (decide (a0 > a1))) else ((spec_l01Abs.f a0).bind fun t147 => ((spec_l01Abs.f a1).bind fun t148 => (some (decide (t147 < t148)))))) = some r := H
 have A4 := Aside0.mk A40
 clear A40
 by_cases c5 : t145 = t146
 ·rw [if_pos c5] at H
  have c5b0 : (t145 == t146) = true := beq_iff_eq.mpr c5
  have c5b1 : (t145 != t146) = false := bne_eq_false_iff_eq.mpr c5
  clear c5
  obtain rfl := Option.some.inj H
  go_enter Try.func111, Try.ntmps111
  go_wp2_with (first | ((with_reducible refine gate_callee (f := 64) rfl ?_); refine goesL_ (some 6) rfl rfl Try.func64 (by kernel_rfl) rfl #[.int .i64 a0] rfl (by (try simp only [List.map_toArray, List.map_cons, List.map_nil]); first | done | rfl | (simp only [List.length_drop, List.length_take]; rfl)) ?_; (with_reducible refine (spec_l01Abs.calls a0 t145 _ A3.out).mono ?_); rintro e w6 ⟨rfl, hb⟩; refine ⟨_, rfl, ?_⟩; have n0_ := Aside0.mk (below_step (by repeat (first | (with_reducible first | exact HB.out | apply below_alloc | apply pw_below_drewN | apply below_drew1) | exact HB.out)) hb); clear HB; have HB := n0_; clear n0_; (try clear hb); (try clear hb2); (try clear hk); (try clear hi)) | ((with_reducible refine gate_callee (f := 64) rfl ?_); refine goesL_ (some 8) rfl rfl Try.func64 (by kernel_rfl) rfl #[.int .i64 a1] rfl (by (try simp only [List.map_toArray, List.map_cons, List.map_nil]); first | done | rfl | (simp only [List.length_drop, List.length_take]; rfl)) ?_; (with_reducible refine (spec_l01Abs.calls a1 t146 _ A4.out).mono ?_); rintro e w7 ⟨rfl, hb⟩; refine ⟨_, rfl, ?_⟩; have n0_ := Aside0.mk (below_step (by repeat (first | (with_reducible first | exact HB.out | apply below_alloc | apply pw_below_drewN | apply below_drew1) | exact HB.out)) hb); clear HB; have HB := n0_; clear n0_; (try clear hb); (try clear hb2); (try clear hk); (try clear hi)))
  go_ret
  exact ⟨by first | rfl | (simp [errW_none, errW_some] <;> rfl) | (simp [*, errW_none, errW_some] <;> rfl), by repeat (first | (with_reducible first | exact HB.out | apply below_alloc | apply pw_below_drewN | apply below_drew1) | exact HB.out)⟩
 ·rw [if_neg c5] at H
  have c5b0 : (t145 == t146) = false := beq_eq_false_iff_ne.mpr c5
  have c5b1 : (t145 != t146) = true := bne_iff_ne.mpr c5
  replace H := Option.bind_eq_some_iff.mp H
  obtain ⟨t147, A80, H⟩ := H
  replace H : ((spec_l01Abs.f a1).bind fun t148 => (some (decide (t147 < t148)))) = some r := H
  have A8 := Aside0.mk A80
  clear A80
  replace H := Option.bind_eq_some_iff.mp H
  obtain ⟨t148, A90, H⟩ := H
  replace H : (some (decide (t147 < t148))) = some r := H
  have A9 := Aside0.mk A90
  clear A90
  obtain rfl := Option.some.inj H
  go_enter Try.func111, Try.ntmps111
  go_wp2_with (first | ((with_reducible refine gate_callee (f := 64) rfl ?_); refine goesL_ (some 6) rfl rfl Try.func64 (by kernel_rfl) rfl #[.int .i64 a0] rfl (by (try simp only [List.map_toArray, List.map_cons, List.map_nil]); first | done | rfl | (simp only [List.length_drop, List.length_take]; rfl)) ?_; (with_reducible refine (spec_l01Abs.calls a0 t145 _ A3.out).mono ?_); rintro e w10 ⟨rfl, hb⟩; refine ⟨_, rfl, ?_⟩; have n0_ := Aside0.mk (below_step (by repeat (first | (with_reducible first | exact HB.out | apply below_alloc | apply pw_below_drewN | apply below_drew1) | exact HB.out)) hb); clear HB; have HB := n0_; clear n0_; (try clear hb); (try clear hb2); (try clear hk); (try clear hi)) | ((with_reducible refine gate_callee (f := 64) rfl ?_); refine goesL_ (some 8) rfl rfl Try.func64 (by kernel_rfl) rfl #[.int .i64 a1] rfl (by (try simp only [List.map_toArray, List.map_cons, List.map_nil]); first | done | rfl | (simp only [List.length_drop, List.length_take]; rfl)) ?_; (with_reducible refine (spec_l01Abs.calls a1 t146 _ A4.out).mono ?_); rintro e w11 ⟨rfl, hb⟩; refine ⟨_, rfl, ?_⟩; have n0_ := Aside0.mk (below_step (by repeat (first | (with_reducible first | exact HB.out | apply below_alloc | apply pw_below_drewN | apply below_drew1) | exact HB.out)) hb); clear HB; have HB := n0_; clear n0_; (try clear hb); (try clear hb2); (try clear hk); (try clear hi)) | ((with_reducible refine gate_callee (f := 64) rfl ?_); refine goesL_ (some 11) rfl rfl Try.func64 (by kernel_rfl) rfl #[.int .i64 a0] rfl (by (try simp only [List.map_toArray, List.map_cons, List.map_nil]); first | done | rfl | (simp only [List.length_drop, List.length_take]; rfl)) ?_; (with_reducible refine (spec_l01Abs.calls a0 t147 _ A8.out).mono ?_); rintro e w12 ⟨rfl, hb⟩; refine ⟨_, rfl, ?_⟩; have n0_ := Aside0.mk (below_step (by repeat (first | (with_reducible first | exact HB.out | apply below_alloc | apply pw_below_drewN | apply below_drew1) | exact HB.out)) hb); clear HB; have HB := n0_; clear n0_; (try clear hb); (try clear hb2); (try clear hk); (try clear hi)) | ((with_reducible refine gate_callee (f := 64) rfl ?_); refine goesL_ (some 13) rfl rfl Try.func64 (by kernel_rfl) rfl #[.int .i64 a1] rfl (by (try simp only [List.map_toArray, List.map_cons, List.map_nil]); first | done | rfl | (simp only [List.length_drop, List.length_take]; rfl)) ?_; (with_reducible refine (spec_l01Abs.calls a1 t148 _ A9.out).mono ?_); rintro e w13 ⟨rfl, hb⟩; refine ⟨_, rfl, ?_⟩; have n0_ := Aside0.mk (below_step (by repeat (first | (with_reducible first | exact HB.out | apply below_alloc | apply pw_below_drewN | apply below_drew1) | exact HB.out)) hb); clear HB; have HB := n0_; clear n0_; (try clear hb); (try clear hb2); (try clear hk); (try clear hi)))
  go_ret
  exact ⟨by first | rfl | (simp [errW_none, errW_some] <;> rfl) | (simp [*, errW_none, errW_some] <;> rfl), by repeat (first | (with_reducible first | exact HB.out | apply below_alloc | apply pw_below_drewN | apply below_drew1) | exact HB.out)⟩
end Go.Proofs.Ytelfahcjeldliaa.PFnExactNormalCnf
end
section
namespace Go.Proofs.Ytelfahcjeldliaa.PFnExactNormalCnf
open Go.RowKit Go.Proofs.YtelfahcjeldliaaW.PrintWords Go.Proofs.YtelfahcjeldliaaW.PrintLast Go.Proofs.YtelfahcjeldliaaW.PrintMore
attribute [local go_sem] max2_int min2_int max_two min_two max_three min_three max_four min_four   -- for this text's walks alone
set_option linter.unusedVariables false
set_option linter.unusedSimpArgs false
def so6_T : Bool × List (List Nat × List Nat) := (true, [([], []), ([], []), ([1], [1]), ([0, 2], [0, 2]), ([3], [3]), ([4], [4]), ([4], [4]), ([5, 6, 4], [4, 5, 6]), ([7, 4], [4, 7]), ([4], [4]), ([4], [4]), ([9, 10, 4], [4, 9, 10]), ([11, 4], [4, 11]), ([8, 12, 4, 4], [4, 8, 12]), ([4, 13], [4, 13])])
def so6_B : List Nat := [0, 0, 2, 7, 15, 31, 31, 127, 255, 31, 31, 1567, 3615, 8191, 16383]
theorem so6_tab : rtab .any (opsOf Try.f82 6) = so6_T := by kernel_rfl
theorem so6_bits : waitsOk so6_T.2 so6_B = true := by kernel_rfl
def so8_T : Bool × List (List Nat × List Nat) := (true, [([], []), ([], []), ([1], [1]), ([0, 2], [0, 2]), ([3], [3]), ([4], [4]), ([4], [4]), ([5, 6, 4], [4, 5, 6]), ([7, 4], [4, 7]), ([4], [4]), ([4], [4]), ([9, 10, 4], [4, 9, 10]), ([11, 4], [4, 11]), ([8, 12, 4], [4, 8, 12]), ([4, 13], [4, 13])])
def so8_B : List Nat := [0, 0, 2, 7, 15, 31, 31, 127, 255, 31, 31, 1567, 3615, 8191, 16383]
theorem so8_tab : rtab .any (opsOf Try.f82 8) = so8_T := by kernel_rfl
theorem so8_bits : waitsOk so8_T.2 so8_B = true := by kernel_rfl
def so9_T : Bool × List (List Nat × List Nat) := (true, [([], []), ([], []), ([], []), ([1, 2], [1, 2]), ([0, 3], [0, 3]), ([], []), ([], []), ([5, 6], [5, 6]), ([7], [7]), ([8], [8]), ([4, 9, 4], [4, 9]), ([], []), ([], []), ([11, 12], [11, 12]), ([10, 13, 10], [10, 13]), ([14, 14, 0, 1, 2, 3, 4, 5, 6, 7, 8, 9, 10, 11, 12, 13, 14], [1, 11, 14])])
def so9_B : List Nat := [0, 0, 0, 6, 15, 0, 0, 96, 224, 480, 1023, 0, 0, 6144, 16383, 32767]
theorem so9_tab : rtab .any (opsOf Try.f82 9) = so9_T := by kernel_rfl
theorem so9_bits : waitsOk so9_T.2 so9_B = true := by kernel_rfl
def so13_T : Bool × List (List Nat × List Nat) := (true, [([], []), ([], []), ([1], [1]), ([0, 2], [0, 2]), ([3], [3]), ([], []), ([], []), ([5, 6], [5, 6]), ([7], [7]), ([8], [8]), ([4, 9], [4, 9])])
def so13_B : List Nat := [0, 0, 2, 7, 15, 0, 0, 96, 224, 480, 1023]
theorem so13_tab : rtab .any (opsOf Try.f82 13) = so13_T := by kernel_rfl
theorem so13_bits : waitsOk so13_T.2 so13_B = true := by kernel_rfl
theorem R_ctake {e base c jj : Nat} {ok : Nat → Prop} {A : Option Addr} {W : World} {ys : List Int} (h : Kd.R (Kd.int .i64) e W base ok (.slice A ys.length c) ys) (hj : jj ≤ ys.length) : Kd.C (Kd.int .i64) W A jj (ys.take jj) := by
 have q := Kd.C_take (Kd.R_reads' h).2.2 hj
 rwa [List.length_take, Nat.min_eq_left hj] at q
theorem R_cdrop {e base c jj : Nat} {ok : Nat → Prop} {ad : Addr} {W : World} {ys : List Int} (h : Kd.R (Kd.int .i64) e W base ok (.slice (some ad) ys.length c) ys) (hj : jj ≤ ys.length) (hc : ys.length ≤ c) : Kd.C (Kd.int .i64) W (if c = jj then some ad else some (ad.add jj)) (ys.length - jj) (ys.drop jj) := by
 have q := Kd.C_drop (Kd.R_reads' h).2.2 hj hc
 rw [List.length_drop, show jj * (Kd.int .i64).sz = jj from Nat.mul_one jj] at q
 exact q
theorem R_cap {e base c n : Nat} {ok : Nat → Prop} {A : Option Addr} {W : World} {ys : List Int} (h : Kd.R (Kd.int .i64) e W base ok (.slice A n c) ys) : n ≤ c := (Kd.R_reads' h).2.1
theorem abs_is {a : Int} (ha : inR a) : spec_l01Abs.f a = some (if a < 0 then -a else a) := by
 obtain ⟨h1, h2⟩ := ha
 have e : wrap64 (-a) = -a := IntWalk.wrap64_in _ ⟨by omega, by omega⟩
 unfold spec_l01Abs.f
 rw [e]
 unfold mx
 congr 1
 split <;> split <;> omega
theorem before_is {a b : Int} (ha : inR a) (hb : inR b) : spec_l01Before.f a b = some (decide (rk a < rk b)) := by
 unfold spec_l01Before.f
 simp only [abs_is ha, abs_is hb, Option.bind_some]
 unfold rk
 by_cases h1 : a < 0 <;> by_cases h2 : b < 0 <;> simp only [h1, h2, if_true, if_false] <;> split <;> (congr 1; apply decide_eq_decide.2; omega)
def spec_l01Sorted.f (l : List Int) : Option (List Int × Bool) := if l.length ≤ 4096 ∧ ∀ x ∈ l, inR x then some (insAll l [], !(oppB (insAll l []))) else none
set_option maxHeartbeats 8000000 in
set_option maxRecDepth 100000 in
theorem spec_l01Sorted.calls (A0 : Option Addr) (c0 : Nat) (l0 : List Int) (r1 : List Int) (r2 : Bool) (w : World) (hr0 : Kd.C (Kd.int .i64) w A0 l0.length l0) (hc0 : l0.length ≤ c0) (h : spec_l01Sorted.f l0 = some (r1, r2)) :
  Calls Try.prog 82 #[.slice A0 l0.length c0] w fun e w' => ∃ v0_ : Value, e = .returned (.tuple #[v0_, .bool r2]) ∧ Kd.R (Kd.int .i64) 3 w' w.heap.size (fun _ => True) v0_ r1 ∧ Below w.heap.size w w' := by
 unfold spec_l01Sorted.f at h
 by_cases hg : l0.length ≤ 4096 ∧ ∀ x ∈ l0, inR x
 rotate_left
 ·rw [if_neg hg] at h
  cases h
 rw [if_pos hg] at h
 obtain ⟨hlen, hin⟩ := hg
 obtain ⟨rfl, h2⟩ := Prod.mk.inj (Option.some.inj h)
 clear h
 obtain ⟨res, hres⟩ : ∃ res, insAll l0 [] = res := ⟨_, rfl⟩
 rw [hres] at h2 ⊢
 have HRES : Aside0 (insAll (l0.drop 0) [] = res) := ⟨hres⟩
 have H2 := Aside0.mk h2
 have HA := Aside0.mk hr0
 have HIN := Aside0.mk hin
 clear hres h2 hr0 hin
 go_enter Try.func82, Try.ntmps82
 go_upto_region 2 with (first | ((with_reducible refine gate_dst (N := 8) rfl ?_); refine Kd.R_lit (Kd.int .i64) w.heap.size 3 rfl (N := 8) rfl (xs := ([] : List Int)) (inner := []) (ok := fun _ => True) (okp := fun _ => False) (by go_simp; done) (Reps.none _ _) (fun _ hk => hk.elim) trivial (Below.refl _ _) (Nat.le_refl _) (by simp) ?_; intro v4 wA hr hb_ hg_ hat_; have HO := Aside0.mk hr; have HB := Aside0.mk hb_; have HAT := Aside0.mk hat_; clear hr hb_ hg_ hat_))
 obtain ⟨A4, c4, e4⟩ := Kd.R_slice HO.out
 subst e4
 obtain ⟨ad4, rfl⟩ : ∃ ad4, A4 = some ad4 := by
  cases A4 with
  | none => obtain ⟨b_, h_, -⟩ := HAT.out; cases h_
  | some a_ => exact ⟨a_, rfl⟩
 clear HAT
 go_wp2
 go_loopg [4, 5] l0.length (fun gg v4 v5 wr => ∃ (kk : Nat) (ad : Addr) (c : Nat) (ys : List Int), v5 = .int .i64 kk ∧ kk ≤ l0.length ∧ l0.length - kk ≤ gg ∧ v4 = .slice (some ad) ys.length c ∧ ys.length ≤ kk ∧ Aside0 (∀ x ∈ ys, inR x) ∧ Aside0 (insAll (l0.drop kk) ys = res) ∧ Aside0 (Kd.R (Kd.int .i64) 3 wr w.heap.size (fun _ => True) (.slice (some ad) ys.length c) ys) ∧ Aside0 (Below w.heap.size w wr))
 case atStart => exact ⟨0, ad4, c4, [], rfl, Nat.zero_le _, by omega, rfl, Nat.le_refl _, ⟨fun _ h_ => by cases h_⟩, HRES, HO, HB⟩
 case round =>
  clear HRES HO HB
  obtain ⟨kk, ad, c, ys, rfl, hkk, hg, rfl, hyl, HYI, HRES, HO, HB⟩ := hrel
  by_cases hlt : kk < l0.length
  ·have hltz : (kk : Int) < (l0.length : Int) := by omega
   have hkc0 : (0 : Int) ≤ (kk : Int) := Int.natCast_nonneg _
   have ewk : IntKind.i64.wrap ((kk : Int) + 1) = ((kk + 1 : Nat) : Int) := IntWalk.i64_in _ ⟨by omega, by omega⟩
   obtain ⟨adc, ea, hx0⟩ := Kd.at_int HA.out (kk : Int) hkc0 hltz
   subst ea
   rw [Int.toNat_natCast] at hx0
   have hrd : rd l0 (kk : Int) = l0[kk] := by unfold rd; simp [List.getD, hlt]
   have hRES := HRES.out
   rw [List.drop_eq_getElem_cons hlt, insAll, ← hrd] at hRES
   have hxi : inR l0[kk] := HIN.out _ (List.getElem_mem hlt)
   rw [← hrd] at hxi
   clear HRES hrd
   generalize rd l0 (kk : Int) = x at hx0 hRES hxi
   have HXI := Aside0.mk hxi
   have HRES := Aside0.mk hRES
   clear hxi hRES
   have HJ0 : Aside0 (0 + cntB x (ys.drop 0) = cntB x ys) := ⟨Nat.zero_add _⟩
   go_wp2
   go_loopg [6] ys.length (fun gg2 v6 wr2 => ∃ jj : Nat, v6 = .int .i64 jj ∧ jj ≤ ys.length ∧ ys.length - jj ≤ gg2 ∧ Aside0 (jj + cntB x (ys.drop jj) = cntB x ys) ∧ Aside0 (Kd.R (Kd.int .i64) 3 wr2 w.heap.size (fun _ => True) (.slice (some ad) ys.length c) ys) ∧ Aside0 (Below w.heap.size w wr2))
   case atStart => exact ⟨0, rfl, Nat.zero_le _, by omega, HJ0, HO, HB⟩
   case round =>
    clear HJ0 HO HB
    obtain ⟨jj, rfl, hjj, hg2, HJ, HO, HB⟩ := hrel
    by_cases hjl : jj < ys.length
    ·have hjz : (jj : Int) < (ys.length : Int) := by omega
     have hj0 : (0 : Int) ≤ (jj : Int) := Int.natCast_nonneg _
     have ewj : IntKind.i64.wrap ((jj : Int) + 1) = ((jj + 1 : Nat) : Int) := IntWalk.i64_in _ ⟨by omega, by omega⟩
     have hCy := (Kd.R_reads' HO.out).2.2
     obtain ⟨ad_, ea_, hy⟩ := Kd.at_int hCy (jj : Int) hj0 hjz
     obtain rfl := Option.some.inj ea_
     clear ea_ hCy
     rw [Int.toNat_natCast] at hy
     have hrdy : rd ys (jj : Int) = ys[jj] := by unfold rd; simp [List.getD, hjl]
     have hyi : inR ys[jj] := HYI.out _ (List.getElem_mem hjl)
     have hbf := before_is hyi HXI.out
     have hst := @cntB_step x ys jj hjl
     have hsp := @cntB_stop x ys jj hjl
     rw [← hrdy] at hbf hst hsp
     clear hrdy hyi
     generalize rd ys (jj : Int) = y at hy hbf hst hsp
     have hx := (HB.out.cell (World.block_lt_of_cell? w _ hx0)).trans hx0
     obtain ⟨b, hb6⟩ : ∃ b, decide (rk y < rk x) = b := ⟨_, rfl⟩
     rw [hb6] at hbf
     replace hbf := Aside0.mk hbf
     have HX0 := Aside0.mk hx0
     clear hx0
     go_upto_region 6 with fail
     have hbdc : ∀ p v, wr.cell? p = some v → wr.drew.cell? p = some v := fun p v h => h
     have hbd := below_drew (Below.refl wr.heap.size wr)
     replace HO := Aside0.mk (Kd.R_below HO.out hbd)
     replace HB := Aside0.mk (HB.out.trans (hbd.mono HB.out.size))
     clear hbd
     replace hy := hbdc _ _ hy
     replace hx := hbdc _ _ hx
     clear hbdc
     generalize hw9 : wr.drew = w20 at *
     refine start_ (n := 15) (S := fun w' => w'.cell? (ad.add jj) = some (.int .i64 y) ∧ w'.cell? (adc.add kk) = some (.int .i64 x)) (ds := []) #[false, false, false, false, false, false, false, false, false, false, false, false, false, false, false] (by kernel_rfl) rfl rfl (by rw [hw9]; exact ⟨hy, hx⟩) (fun hHeld => ?_)
     refine with_tabW so6_tab so6_bits (fun HT_ HW_ => ?_)
     rw [hw9] at hHeld ⊢
     clear hw9
     refine pure_ (i := 0) (N := some 15) (v := ?_) (a' := ?_) #[true, false, false, false, false, false, false, false, false, false, false, false, false, false, false] rfl rfl (any_of HT_.out (by kernel_rfl)) (fun _ _ _ h => h) (Or.inl ⟨by rfl, ?_⟩) ?_ ?_
     rotate_left
     ·intro w'
      go_simp
      with_reducible rfl
     rotate_left
     ·simp only [Act.put, List.setIfInBounds_toArray, List.set_cons_zero, List.set_cons_succ, i64_w, i32_w]
      rfl
     refine pure_ (i := 1) (N := some 16) (v := ?_) (a' := ?_) #[true, true, false, false, false, false, false, false, false, false, false, false, false, false, false] rfl rfl (any_of HT_.out (by kernel_rfl)) (fun _ _ _ h => h) (Or.inl ⟨by rfl, ?_⟩) ?_ ?_
     rotate_left
     ·intro w'
      go_simp
      with_reducible rfl
     rotate_left
     ·simp only [Act.put, List.setIfInBounds_toArray, List.set_cons_zero, List.set_cons_succ, i64_w, i32_w]
      rfl
     refine pure_ (i := 2) (N := some 17) (v := ?_) (a' := ?_) #[true, true, true, false, false, false, false, false, false, false, false, false, false, false, false] rfl rfl (any_of HT_.out (by kernel_rfl)) (fun _ _ _ h => h) (Or.inl ⟨by rfl, ?_⟩) ?_ ?_
     rotate_left
     ·intro w'
      go_simp
      with_reducible rfl
     rotate_left
     ·simp only [Act.put, List.setIfInBounds_toArray, List.set_cons_zero, List.set_cons_succ, i64_w, i32_w]
      rfl
     refine pure_ (i := 3) (N := some 18) (v := ?_) (a' := ?_) #[true, true, true, true, false, false, false, false, false, false, false, false, false, false, false] rfl rfl (any_of HT_.out (by kernel_rfl)) (fun _ _ _ h => h) (Or.inl ⟨by rfl, ?_⟩) ?_ ?_
     rotate_left
     ·intro w'
      go_simp
      with_reducible rfl
     rotate_left
     ·simp only [Act.put, List.setIfInBounds_toArray, List.set_cons_zero, List.set_cons_succ, i64_w, i32_w]
      rfl
     refine pure_ (i := 4) (N := some 19) (v := ?_) (a' := ?_) #[true, true, true, true, true, false, false, false, false, false, false, false, false, false, false] rfl rfl (any_of HT_.out (by kernel_rfl)) (fun _ _ _ h => h) (Or.inl ⟨by rfl, ?_⟩) ?_ ?_
     rotate_left
     ·intro w'
      go_simp
      with_reducible rfl
     rotate_left
     ·simp only [Act.put, List.setIfInBounds_toArray, List.set_cons_zero, List.set_cons_succ, i64_w, i32_w]
      rfl
     refine pure_ (i := 5) (N := some 20) (v := ?_) (a' := ?_) #[true, true, true, true, true, true, false, false, false, false, false, false, false, false, false] rfl rfl (any_of HT_.out (by kernel_rfl)) (fun _ _ _ h => h) (Or.inl ⟨by rfl, ?_⟩) ?_ ?_
     rotate_left
     ·intro w'
      go_simp
      with_reducible rfl
     rotate_left
     ·simp only [Act.put, List.setIfInBounds_toArray, List.set_cons_zero, List.set_cons_succ, i64_w, i32_w]
      rfl
     refine pure_ (i := 6) (N := some 21) (v := ?_) (a' := ?_) #[true, true, true, true, true, true, true, false, false, false, false, false, false, false, false] rfl rfl (any_of HT_.out (by kernel_rfl)) (fun _ _ _ h => h) (Or.inl ⟨by rfl, ?_⟩) ?_ ?_
     rotate_left
     ·intro w'
      go_simp
      with_reducible rfl
     rotate_left
     ·simp only [Act.put, List.setIfInBounds_toArray, List.set_cons_zero, List.set_cons_succ, i64_w, i32_w]
      rfl
     refine pure_ (i := 7) (N := some 22) (v := ?_) (a' := ?_) #[true, true, true, true, true, true, true, true, false, false, false, false, false, false, false] rfl rfl (any_of HT_.out (by kernel_rfl)) (fun _ _ _ h => h) (Or.inl ⟨by rfl, ?_⟩) ?_ ?_
     rotate_left
     ·intro w'
      go_simp
      with_reducible rfl
     rotate_left
     ·simp only [Act.put, List.setIfInBounds_toArray, List.set_cons_zero, List.set_cons_succ, i64_w, i32_w]
      rfl
     refine pure_ (i := 9) (N := some 24) (v := ?_) (a' := ?_) #[true, true, true, true, true, true, true, true, false, true, false, false, false, false, false] rfl rfl (any_of HT_.out (by kernel_rfl)) (fun _ _ _ h => h) (Or.inl ⟨by rfl, ?_⟩) ?_ ?_
     rotate_left
     ·intro w'
      go_simp
      with_reducible rfl
     rotate_left
     ·simp only [Act.put, List.setIfInBounds_toArray, List.set_cons_zero, List.set_cons_succ, i64_w, i32_w]
      rfl
     refine pure_ (i := 10) (N := some 25) (v := ?_) (a' := ?_) #[true, true, true, true, true, true, true, true, false, true, true, false, false, false, false] rfl rfl (any_of HT_.out (by kernel_rfl)) (fun _ _ _ h => h) (Or.inl ⟨by rfl, ?_⟩) ?_ ?_
     rotate_left
     ·intro w'
      go_simp
      with_reducible rfl
     rotate_left
     ·simp only [Act.put, List.setIfInBounds_toArray, List.set_cons_zero, List.set_cons_succ, i64_w, i32_w]
      rfl
     refine pure_ (i := 11) (N := some 26) (v := ?_) (a' := ?_) #[true, true, true, true, true, true, true, true, false, true, true, true, false, false, false] rfl rfl (any_of HT_.out (by kernel_rfl)) (fun _ _ _ h => h) (Or.inl ⟨by rfl, ?_⟩) ?_ ?_
     rotate_left
     ·intro w'
      go_simp
      with_reducible rfl
     rotate_left
     ·simp only [Act.put, List.setIfInBounds_toArray, List.set_cons_zero, List.set_cons_succ, i64_w, i32_w]
      rfl
     refine take_ (i := 8) (N := some 23) (v := ?_) (a' := ?_) #[true, true, true, true, true, true, true, true, true, true, true, true, false, false, false] rfl rfl (take_ofW HT_.out HW_.out (by kernel_rfl)) (fun _ _ _ h => h) (Or.inl ⟨by rfl, ?_⟩) hHeld ?_ ?_
     rotate_left
     ·rintro w' ⟨s0, s1⟩
      go_simp
      with_reducible rfl
     rotate_left
     ·simp only [Act.put, List.setIfInBounds_toArray, List.set_cons_zero, List.set_cons_succ, i64_w, i32_w]
      rfl
     refine take_ (i := 12) (N := some 27) (v := ?_) (a' := ?_) #[true, true, true, true, true, true, true, true, true, true, true, true, true, false, false] rfl rfl (take_ofW HT_.out HW_.out (by kernel_rfl)) (fun _ _ _ h => h) (Or.inl ⟨by rfl, ?_⟩) hHeld ?_ ?_
     rotate_left
     ·rintro w' ⟨s0, s1⟩
      go_simp
      with_reducible rfl
     rotate_left
     ·simp only [Act.put, List.setIfInBounds_toArray, List.set_cons_zero, List.set_cons_succ, i64_w, i32_w]
      rfl
     refine one_ (i := 13) (N := some 28) #[true, true, true, true, true, true, true, true, true, true, true, true, true, true, false] rfl rfl (one_of HT_.out (by kernel_rfl)) (by decide) (fun K hK => ?_)
     refine call_ 111 #[.int .i64 y, .int .i64 x] (by rfl) rfl ?q6_hrun13 ?q6_h13
     case q6_hrun13 =>
      have he := enters_of Try.func111 (by kernel_rfl) rfl
      unfold execOp
      simp [resolve, Deferred.ofValue, invoke, Act.eval, he]
     refine (spec_l01Before.calls y x _ _ hbf.out).mono ?_
     rintro e wv ⟨rfl, hb⟩
     refine ⟨_, rfl, ?_⟩
     replace HO := Aside0.mk (Kd.R_below HO.out hb)
     replace HB := Aside0.mk (HB.out.trans (hb.mono HB.out.size))
     have hy2 := (hb.cell (World.block_lt_of_cell? _ _ hHeld.1)).trans hHeld.1
     have hx2 := (hb.cell (World.block_lt_of_cell? _ _ hHeld.2)).trans hHeld.2
     clear hb hHeld
     refine hK.out _ _ ⟨hy2, hx2⟩ (fun hHeld => ?_)
     clear hy2 hx2
     clear hK K
     refine norm_ (a' := ?_) ?_ ?_
     rotate_left
     ·show Act.put _ (some 28) _ = _
      simp only [Act.put, List.setIfInBounds_toArray, List.set_cons_zero, List.set_cons_succ, i64_w, i32_w]
      rfl
     refine pure_ (i := 14) (N := some 29) (v := ?_) (a' := ?_) #[true, true, true, true, true, true, true, true, true, true, true, true, true, true, true] rfl rfl (any_of HT_.out (by kernel_rfl)) (fun _ _ _ h => h) (Or.inl ⟨by rfl, ?_⟩) ?_ ?_
     rotate_left
     ·intro w'
      go_simp
      with_reducible rfl
     rotate_left
     ·simp only [Act.put, List.setIfInBounds_toArray, List.set_cons_zero, List.set_cons_succ, i64_w, i32_w]
      rfl
     refine done_ (done_of HT_.out (by kernel_rfl)) ?_
     clear hHeld HT_ HW_
     have hx0 := HX0.out
     clear HX0 hbf
     cases b with
     | true =>
      have hJ := HJ.out
      rw [hst (of_decide_eq_true hb6)] at hJ
      have HJ2 := Aside0.mk hJ
      clear hJ HJ hst hsp hb6
      go_wp2
      go_roundg (ys.length - (jj + 1))
      case measure => omega
      case rel => exact ⟨jj + 1, by go_num, by omega, by omega, HJ2, HO, HB⟩
     | false =>
      have hJ := HJ.out
      rw [hsp (of_decide_eq_false hb6), Nat.add_zero] at hJ
      clear HJ hst hsp hb6
      have HX0 := Aside0.mk hx0
      have HJ := Aside0.mk hJ
      clear hx0 hJ
      go_upto_region 8 with fail
      have hx0 := HX0.out
      clear HX0
      obtain ⟨wr3, hwr3⟩ : ∃ z : World, z = wv := ⟨_, rfl⟩
      subst hwr3
      have hCy := (Kd.R_reads' HO.out).2.2
      obtain ⟨ad_, ea_, hy⟩ := Kd.at_int hCy (jj : Int) hj0 hjz
      obtain rfl := Option.some.inj ea_
      clear ea_ hCy
      rw [Int.toNat_natCast] at hy
      have hrdy : rd ys (jj : Int) = ys[jj] := by unfold rd; simp [List.getD, hjl]
      have hg8 : ys[cntB x ys]? = some (rd ys (jj : Int)) := by rw [← HJ.out, hrdy]; exact List.getElem?_eq_getElem hjl
      clear hrdy
      generalize rd ys (jj : Int) = y2 at hy hg8
      have hx := (HB.out.cell (World.block_lt_of_cell? w _ hx0)).trans hx0
      have HX0 := Aside0.mk hx0
      clear hx0
      have hbdc : ∀ p v, wr3.cell? p = some v → wr3.drew.cell? p = some v := fun p v h => h
      have hbd := below_drew (Below.refl wr3.heap.size wr3)
      replace HO := Aside0.mk (Kd.R_below HO.out hbd)
      replace HB := Aside0.mk (HB.out.trans (hbd.mono HB.out.size))
      clear hbd
      replace hy := hbdc _ _ hy
      replace hx := hbdc _ _ hx
      clear hbdc
      generalize hw9 : wr3.drew = w30 at *
      refine start_ (n := 15) (S := fun w' => w'.cell? (ad.add jj) = some (.int .i64 y2) ∧ w'.cell? (adc.add kk) = some (.int .i64 x)) (ds := []) #[false, false, false, false, false, false, false, false, false, false, false, false, false, false, false] (by kernel_rfl) rfl rfl (by rw [hw9]; exact ⟨hy, hx⟩) (fun hHeld => ?_)
      refine with_tabW so8_tab so8_bits (fun HT_ HW_ => ?_)
      rw [hw9] at hHeld ⊢
      clear hw9
      refine pure_ (i := 0) (N := some 32) (v := ?_) (a' := ?_) #[true, false, false, false, false, false, false, false, false, false, false, false, false, false, false] rfl rfl (any_of HT_.out (by kernel_rfl)) (fun _ _ _ h => h) (Or.inl ⟨by rfl, ?_⟩) ?_ ?_
      rotate_left
      ·intro w'
       go_simp
       with_reducible rfl
      rotate_left
      ·simp only [Act.put, List.setIfInBounds_toArray, List.set_cons_zero, List.set_cons_succ, i64_w, i32_w]
       rfl
      refine pure_ (i := 1) (N := some 33) (v := ?_) (a' := ?_) #[true, true, false, false, false, false, false, false, false, false, false, false, false, false, false] rfl rfl (any_of HT_.out (by kernel_rfl)) (fun _ _ _ h => h) (Or.inl ⟨by rfl, ?_⟩) ?_ ?_
      rotate_left
      ·intro w'
       go_simp
       with_reducible rfl
      rotate_left
      ·simp only [Act.put, List.setIfInBounds_toArray, List.set_cons_zero, List.set_cons_succ, i64_w, i32_w]
       rfl
      refine pure_ (i := 2) (N := some 34) (v := ?_) (a' := ?_) #[true, true, true, false, false, false, false, false, false, false, false, false, false, false, false] rfl rfl (any_of HT_.out (by kernel_rfl)) (fun _ _ _ h => h) (Or.inl ⟨by rfl, ?_⟩) ?_ ?_
      rotate_left
      ·intro w'
       go_simp
       with_reducible rfl
      rotate_left
      ·simp only [Act.put, List.setIfInBounds_toArray, List.set_cons_zero, List.set_cons_succ, i64_w, i32_w]
       rfl
      refine pure_ (i := 3) (N := some 35) (v := ?_) (a' := ?_) #[true, true, true, true, false, false, false, false, false, false, false, false, false, false, false] rfl rfl (any_of HT_.out (by kernel_rfl)) (fun _ _ _ h => h) (Or.inl ⟨by rfl, ?_⟩) ?_ ?_
      rotate_left
      ·intro w'
       go_simp
       with_reducible rfl
      rotate_left
      ·simp only [Act.put, List.setIfInBounds_toArray, List.set_cons_zero, List.set_cons_succ, i64_w, i32_w]
       rfl
      refine pure_ (i := 4) (N := some 36) (v := ?_) (a' := ?_) #[true, true, true, true, true, false, false, false, false, false, false, false, false, false, false] rfl rfl (any_of HT_.out (by kernel_rfl)) (fun _ _ _ h => h) (Or.inl ⟨by rfl, ?_⟩) ?_ ?_
      rotate_left
      ·intro w'
       go_simp
       with_reducible rfl
      rotate_left
      ·simp only [Act.put, List.setIfInBounds_toArray, List.set_cons_zero, List.set_cons_succ, i64_w, i32_w]
       rfl
      refine pure_ (i := 5) (N := some 37) (v := ?_) (a' := ?_) #[true, true, true, true, true, true, false, false, false, false, false, false, false, false, false] rfl rfl (any_of HT_.out (by kernel_rfl)) (fun _ _ _ h => h) (Or.inl ⟨by rfl, ?_⟩) ?_ ?_
      rotate_left
      ·intro w'
       go_simp
       with_reducible rfl
      rotate_left
      ·simp only [Act.put, List.setIfInBounds_toArray, List.set_cons_zero, List.set_cons_succ, i64_w, i32_w]
       rfl
      refine pure_ (i := 6) (N := some 38) (v := ?_) (a' := ?_) #[true, true, true, true, true, true, true, false, false, false, false, false, false, false, false] rfl rfl (any_of HT_.out (by kernel_rfl)) (fun _ _ _ h => h) (Or.inl ⟨by rfl, ?_⟩) ?_ ?_
      rotate_left
      ·intro w'
       go_simp
       with_reducible rfl
      rotate_left
      ·simp only [Act.put, List.setIfInBounds_toArray, List.set_cons_zero, List.set_cons_succ, i64_w, i32_w]
       rfl
      refine pure_ (i := 7) (N := some 39) (v := ?_) (a' := ?_) #[true, true, true, true, true, true, true, true, false, false, false, false, false, false, false] rfl rfl (any_of HT_.out (by kernel_rfl)) (fun _ _ _ h => h) (Or.inl ⟨by rfl, ?_⟩) ?_ ?_
      rotate_left
      ·intro w'
       go_simp
       with_reducible rfl
      rotate_left
      ·simp only [Act.put, List.setIfInBounds_toArray, List.set_cons_zero, List.set_cons_succ, i64_w, i32_w]
       rfl
      refine pure_ (i := 9) (N := some 41) (v := ?_) (a' := ?_) #[true, true, true, true, true, true, true, true, false, true, false, false, false, false, false] rfl rfl (any_of HT_.out (by kernel_rfl)) (fun _ _ _ h => h) (Or.inl ⟨by rfl, ?_⟩) ?_ ?_
      rotate_left
      ·intro w'
       go_simp
       with_reducible rfl
      rotate_left
      ·simp only [Act.put, List.setIfInBounds_toArray, List.set_cons_zero, List.set_cons_succ, i64_w, i32_w]
       rfl
      refine pure_ (i := 10) (N := some 42) (v := ?_) (a' := ?_) #[true, true, true, true, true, true, true, true, false, true, true, false, false, false, false] rfl rfl (any_of HT_.out (by kernel_rfl)) (fun _ _ _ h => h) (Or.inl ⟨by rfl, ?_⟩) ?_ ?_
      rotate_left
      ·intro w'
       go_simp
       with_reducible rfl
      rotate_left
      ·simp only [Act.put, List.setIfInBounds_toArray, List.set_cons_zero, List.set_cons_succ, i64_w, i32_w]
       rfl
      refine pure_ (i := 11) (N := some 43) (v := ?_) (a' := ?_) #[true, true, true, true, true, true, true, true, false, true, true, true, false, false, false] rfl rfl (any_of HT_.out (by kernel_rfl)) (fun _ _ _ h => h) (Or.inl ⟨by rfl, ?_⟩) ?_ ?_
      rotate_left
      ·intro w'
       go_simp
       with_reducible rfl
      rotate_left
      ·simp only [Act.put, List.setIfInBounds_toArray, List.set_cons_zero, List.set_cons_succ, i64_w, i32_w]
       rfl
      refine take_ (i := 8) (N := some 40) (v := ?_) (a' := ?_) #[true, true, true, true, true, true, true, true, true, true, true, true, false, false, false] rfl rfl (take_ofW HT_.out HW_.out (by kernel_rfl)) (fun _ _ _ h => h) (Or.inl ⟨by rfl, ?_⟩) hHeld ?_ ?_
      rotate_left
      ·rintro w' ⟨s0, s1⟩
       go_simp
       with_reducible rfl
      rotate_left
      ·simp only [Act.put, List.setIfInBounds_toArray, List.set_cons_zero, List.set_cons_succ, i64_w, i32_w]
       rfl
      refine take_ (i := 12) (N := some 44) (v := ?_) (a' := ?_) #[true, true, true, true, true, true, true, true, true, true, true, true, true, false, false] rfl rfl (take_ofW HT_.out HW_.out (by kernel_rfl)) (fun _ _ _ h => h) (Or.inl ⟨by rfl, ?_⟩) hHeld ?_ ?_
      rotate_left
      ·rintro w' ⟨s0, s1⟩
       go_simp
       with_reducible rfl
      rotate_left
      ·simp only [Act.put, List.setIfInBounds_toArray, List.set_cons_zero, List.set_cons_succ, i64_w, i32_w]
       rfl
      refine pure_ (i := 13) (N := some 45) (v := ?_) (a' := ?_) #[true, true, true, true, true, true, true, true, true, true, true, true, true, true, false] rfl rfl (any_of HT_.out (by kernel_rfl)) (fun _ _ _ h => h) (Or.inl ⟨by rfl, ?_⟩) ?_ ?_
      rotate_left
      ·intro w'
       go_simp
       with_reducible rfl
      rotate_left
      ·simp only [Act.put, List.setIfInBounds_toArray, List.set_cons_zero, List.set_cons_succ, i64_w, i32_w]
       rfl
      refine pure_ (i := 14) (N := some 46) (v := ?_) (a' := ?_) #[true, true, true, true, true, true, true, true, true, true, true, true, true, true, true] rfl rfl (any_of HT_.out (by kernel_rfl)) (fun _ _ _ h => h) (Or.inl ⟨by rfl, ?_⟩) ?_ ?_
      rotate_left
      ·intro w'
       go_simp
       with_reducible rfl
      rotate_left
      ·simp only [Act.put, List.setIfInBounds_toArray, List.set_cons_zero, List.set_cons_succ, i64_w, i32_w]
       rfl
      refine done_ (done_of HT_.out (by kernel_rfl)) ?_
      clear hHeld HT_ HW_
      have hx0 := HX0.out
      clear HX0
      by_cases hyx : y2 = x
      ·have hyb : (y2 == x) = true := beq_iff_eq.2 hyx
       have hI : insR x ys = ys := by unfold insR; rw [if_pos (by rw [hg8, hyx])]
       have HR2 : Aside0 (insAll (l0.drop (kk + 1)) ys = res) := ⟨by rw [← HRES.out, hI]⟩
       clear HRES HJ hI hg8 hx0
       rw [hyb]
       go_wp2
       go_roundg (l0.length - (kk + 1))
       case measure => omega
       case rel => exact ⟨kk + 1, ad, c, ys, by go_num, by omega, by omega, rfl, by omega, HYI, HR2, HO, HB⟩
      ·have hyb : (y2 == x) = false := beq_eq_false_iff_ne.2 hyx
       have hI : insR x ys = ys.take jj ++ [x] ++ ys.drop jj := by unfold insR; rw [if_neg (by rw [hg8]; intro h_; exact hyx (Option.some.inj h_)), HJ.out]
       clear hg8 HJ
       rw [hyb]
       have HI := Aside0.mk hI
       clear hI
       replace hjl := Nat.le_of_lt hjl
       have HX0 := Aside0.mk hx0
       clear hx0
       go_upto_region 9 with fail
       have hx0 := HX0.out
       clear HX0
       obtain ⟨wr3, hwr3⟩ : ∃ z : World, z = w30 := ⟨_, rfl⟩
       subst hwr3
       have hjc : jj ≤ c := Nat.le_trans hjl (R_cap HO.out)
       have hbd := below_drew (Below.refl wr3.heap.size wr3)
       replace HO := Aside0.mk (Kd.R_below HO.out hbd)
       replace HB := Aside0.mk (HB.out.trans (hbd.mono HB.out.size))
       clear hbd
       generalize hw9 : wr3.drew = w30 at *
       have hx30 := ((HB.out.cell (World.block_lt_of_cell? w _ hx0)).trans hx0)
       refine start_ (n := 16) (S := fun w' => w'.cell? (adc.add kk) = some (.int .i64 x)) (ds := []) #[false, false, false, false, false, false, false, false, false, false, false, false, false, false, false, false] (by kernel_rfl) rfl rfl (by rw [hw9]; exact hx30) (fun hHeld => ?_)
       refine with_tabW so9_tab so9_bits (fun HT_ HW_ => ?_)
       rw [hw9] at hHeld ⊢
       clear hw9
       have HOU := Aside0.mk (Kd.R_mono (ok' := fun k_ => k_ < w30.heap.size) (Kd.R_bound HO.out) (fun k_ hk_ => hk_.2.2.1))
       clear HO hx30
       obtain ⟨SZ, hSZ⟩ : ∃ s, w30.heap.size = s := ⟨_, rfl⟩
       rw [hSZ] at HOU
       have HSZ := Aside0.mk (Nat.le_of_eq hSZ.symm)
       clear hSZ
       refine pure_ (i := 1) (N := some 48) (v := ?_) (a' := ?_) #[false, true, false, false, false, false, false, false, false, false, false, false, false, false, false, false] rfl rfl (any_of HT_.out (by kernel_rfl)) (fun _ _ _ h => h) (Or.inl ⟨by rfl, ?_⟩) ?_ ?_
       rotate_left
       ·intro w'
        go_simp
        with_reducible rfl
       rotate_left
       ·simp only [Act.put, List.setIfInBounds_toArray, List.set_cons_zero, List.set_cons_succ, i64_w, i32_w]
        rfl
       refine pure_ (i := 2) (N := some 49) (v := ?_) (a' := ?_) #[false, true, true, false, false, false, false, false, false, false, false, false, false, false, false, false] rfl rfl (any_of HT_.out (by kernel_rfl)) (fun _ _ _ h => h) (Or.inl ⟨by rfl, ?_⟩) ?_ ?_
       rotate_left
       ·intro w'
        go_simp
        with_reducible rfl
       rotate_left
       ·simp only [Act.put, List.setIfInBounds_toArray, List.set_cons_zero, List.set_cons_succ, i64_w, i32_w]
        rfl
       refine pure_ (i := 3) (N := some 50) (v := ?_) (a' := ?_) #[false, true, true, true, false, false, false, false, false, false, false, false, false, false, false, false] rfl rfl (any_of HT_.out (by kernel_rfl)) (fun _ _ _ h => h) (Or.inl ⟨by rfl, ?_⟩) ?_ ?_
       rotate_left
       ·intro w'
        go_simp
        with_reducible rfl
       rotate_left
       ·simp only [Act.put, List.setIfInBounds_toArray, List.set_cons_zero, List.set_cons_succ, i64_w, i32_w]
        rfl
       refine pure_ (i := 5) (N := some 52) (v := ?_) (a' := ?_) #[false, true, true, true, false, true, false, false, false, false, false, false, false, false, false, false] rfl rfl (any_of HT_.out (by kernel_rfl)) (fun _ _ _ h => h) (Or.inl ⟨by rfl, ?_⟩) ?_ ?_
       rotate_left
       ·intro w'
        go_simp
        with_reducible rfl
       rotate_left
       ·simp only [Act.put, List.setIfInBounds_toArray, List.set_cons_zero, List.set_cons_succ, i64_w, i32_w]
        rfl
       refine pure_ (i := 6) (N := some 53) (v := ?_) (a' := ?_) #[false, true, true, true, false, true, true, false, false, false, false, false, false, false, false, false] rfl rfl (any_of HT_.out (by kernel_rfl)) (fun _ _ _ h => h) (Or.inl ⟨by rfl, ?_⟩) ?_ ?_
       rotate_left
       ·intro w'
        go_simp
        with_reducible rfl
       rotate_left
       ·simp only [Act.put, List.setIfInBounds_toArray, List.set_cons_zero, List.set_cons_succ, i64_w, i32_w]
        rfl
       refine pure_ (i := 7) (N := some 54) (v := ?_) (a' := ?_) #[false, true, true, true, false, true, true, true, false, false, false, false, false, false, false, false] rfl rfl (any_of HT_.out (by kernel_rfl)) (fun _ _ _ h => h) (Or.inl ⟨by rfl, ?_⟩) ?_ ?_
       rotate_left
       ·intro w'
        go_simp
        with_reducible rfl
       rotate_left
       ·simp only [Act.put, List.setIfInBounds_toArray, List.set_cons_zero, List.set_cons_succ, i64_w, i32_w]
        rfl
       refine pure_ (i := 11) (N := some 58) (v := ?_) (a' := ?_) #[false, true, true, true, false, true, true, true, false, false, false, true, false, false, false, false] rfl rfl (any_of HT_.out (by kernel_rfl)) (fun _ _ _ h => h) (Or.inl ⟨by rfl, ?_⟩) ?_ ?_
       rotate_left
       ·intro w'
        go_simp
        with_reducible rfl
       rotate_left
       ·simp only [Act.put, List.setIfInBounds_toArray, List.set_cons_zero, List.set_cons_succ, i64_w, i32_w]
        rfl
       refine pure_ (i := 12) (N := some 59) (v := ?_) (a' := ?_) #[false, true, true, true, false, true, true, true, false, false, false, true, true, false, false, false] rfl rfl (any_of HT_.out (by kernel_rfl)) (fun _ _ _ h => h) (Or.inl ⟨by rfl, ?_⟩) ?_ ?_
       rotate_left
       ·intro w'
        go_simp
        with_reducible rfl
       rotate_left
       ·simp only [Act.put, List.setIfInBounds_toArray, List.set_cons_zero, List.set_cons_succ, i64_w, i32_w]
        rfl
       refine pure_ (i := 13) (N := some 60) (v := ?_) (a' := ?_) #[false, true, true, true, false, true, true, true, false, false, false, true, true, true, false, false] rfl rfl (any_of HT_.out (by kernel_rfl)) (fun _ _ _ h => h) (Or.inl ⟨by rfl, ?_⟩) ?_ ?_
       rotate_left
       ·intro w'
        go_simp
        with_reducible rfl
       rotate_left
       ·simp only [Act.put, List.setIfInBounds_toArray, List.set_cons_zero, List.set_cons_succ, i64_w, i32_w]
        rfl
       refine take_ (i := 8) (N := some 55) (v := ?_) (a' := ?_) #[false, true, true, true, false, true, true, true, true, false, false, true, true, true, false, false] rfl rfl (take_ofW HT_.out HW_.out (by kernel_rfl)) (fun _ _ _ h => h) (Or.inl ⟨by rfl, ?_⟩) hHeld ?_ ?_
       rotate_left
       ·intro w' s0
        go_simp
        with_reducible rfl
       rotate_left
       ·simp only [Act.put, List.setIfInBounds_toArray, List.set_cons_zero, List.set_cons_succ, i64_w, i32_w]
        rfl
       refine two_ (i := 0) (j := 9) (Ni := some 47) (Nj := some 56) #[true, true, true, true, false, true, true, true, true, false, false, true, true, true, false, false] #[false, true, true, true, false, true, true, true, true, true, false, true, true, true, false, false] rfl rfl rfl rfl (two_of HT_.out (by kernel_rfl)) (by decide) (by decide) (fun K hK => ?_) (fun K hK => ?_)
       ·refine Kd.R_lit_step (Kd.int .i64) (w0 := w) w.heap.size 3 (by rfl) (N := 47) rfl (xs := ([] : List Int)) (inner := []) (ok := fun k_ => SZ ≤ k_) (okp := fun _ => False) (by go_simp; done) (Reps.none _ _) (fun _ hk => hk.elim) HSZ.out HB.out HB.out.size (by simp) ?_
        intro va w31 hr hb_ hg_ hat_
        replace HOU := Aside0.mk (Kd.R_grown HOU.out hg_ (fun _ _ hk => by cases hk))
        replace HSZ := Aside0.mk (Nat.le_trans HSZ.out hg_.size)
        replace HB := Aside0.mk hb_
        have Ha := Aside0.mk hr
        clear hr hb_ hg_ hat_
        refine hK.out _ _ ((HB.out.cell (World.block_lt_of_cell? w _ hx0)).trans hx0) (fun hHeld => ?_)
        clear hK K
        refine norm_ (a' := ?_) ?_ ?_
        rotate_left
        ·show Act.put _ (some 47) _ = _
         simp only [Act.put, List.setIfInBounds_toArray, List.set_cons_zero, List.set_cons_succ, i64_w, i32_w]
         rfl
        refine two_ (i := 4) (j := 9) (Ni := some 51) (Nj := some 56) #[true, true, true, true, true, true, true, true, true, false, false, true, true, true, false, false] #[true, true, true, true, false, true, true, true, true, true, false, true, true, true, false, false] rfl rfl rfl rfl (two_of HT_.out (by kernel_rfl)) (by decide) (by decide) (fun K hK => ?_) (fun K hK => ?_)
        ·have HSZ0 := HSZ
         have Ha2 := Aside0.mk (Kd.R_mono (ok' := fun k_ => SZ ≤ k_ ∨ w31.heap.size ≤ k_) Ha.out (fun k_ hk_ => .inl hk_))
         refine Kd.R_append_rows_step (Kd.int .i64) (w0 := w) w.heap.size (by rfl) (.tmp 47) (.tmp 50) 37 3 (.int .i64 0) 8 rfl Try.underlying37 info3 rfl (by decide) (by omega) _ _ _ _ _ _ _ (fun _ => False) rfl rfl Ha2.out ((R_ctake HOU.out hjl)) (fun _ _ h => h) (fun _ h => h.elim) (fun k_ hk_ => .inr hk_) HB.out HB.out.size (by simp only [List.length_nil]; omega) ?_
         intro vb w32 hr hb_ hg_ hat_
         rw [List.nil_append] at hr
         replace HOU := Aside0.mk (Kd.R_grown HOU.out hg_ (fun k_ hk_ e_ => Nat.not_lt.2 (Ha.out.1 k_ e_.symm) hk_))
         replace HSZ := Aside0.mk (Nat.le_trans HSZ.out hg_.size)
         replace HB := Aside0.mk hb_
         have Hb := Aside0.mk hr
         clear hr hb_ hg_ hat_
         replace Hb := Aside0.mk (Kd.R_mono (ok' := fun k_ => SZ ≤ k_) Hb.out (fun k_ hk_ => hk_.elim id (fun h_ => Nat.le_trans HSZ0.out h_)))
         clear Ha Ha2 HSZ0
         refine hK.out _ _ ((HB.out.cell (World.block_lt_of_cell? w _ hx0)).trans hx0) (fun hHeld => ?_)
         clear hK K
         refine norm_ (a' := ?_) ?_ ?_
         rotate_left
         ·show Act.put _ (some 51) _ = _
          simp only [Act.put, List.setIfInBounds_toArray, List.set_cons_zero, List.set_cons_succ, i64_w, i32_w]
          rfl
         refine one_ (i := 9) (N := some 56) #[true, true, true, true, true, true, true, true, true, true, false, true, true, true, false, false] rfl rfl (one_of HT_.out (by kernel_rfl)) (by decide) (fun K hK => ?_)
         refine Kd.R_lit_step (Kd.int .i64) (w0 := w) w.heap.size 3 (by rfl) (N := 56) rfl (xs := ([x] : List Int)) (inner := [.int .i64 x]) (ok := fun _ => True) (okp := fun _ => False) (by go_simp; done) (Kd.reps_scalar [x]) (fun _ hk => hk.elim) trivial HB.out HB.out.size (by simp) ?_
         intro vc w33 hr hb_ hg_ hat_
         replace HOU := Aside0.mk (Kd.R_grown HOU.out hg_ (fun _ _ hk => by cases hk))
         replace Hb := Aside0.mk (Kd.R_grown Hb.out hg_ (fun _ _ hk => by cases hk))
         replace HSZ := Aside0.mk (Nat.le_trans HSZ.out hg_.size)
         replace HB := Aside0.mk hb_
         have Hc := Aside0.mk hr
         clear hr hb_ hg_ hat_
         refine hK.out _ _ ((HB.out.cell (World.block_lt_of_cell? w _ hx0)).trans hx0) (fun hHeld => ?_)
         clear hK K
         refine norm_ (a' := ?_) ?_ ?_
         rotate_left
         ·show Act.put _ (some 56) _ = _
          simp only [Act.put, List.setIfInBounds_toArray, List.set_cons_zero, List.set_cons_succ, i64_w, i32_w]
          rfl
         obtain ⟨Ac_, cc_, ec_⟩ := Kd.R_slice Hc.out
         subst ec_
         replace Hb := Aside0.mk (Kd.R_mono (ok' := fun k_ => SZ ≤ k_ ∨ w33.heap.size ≤ k_) Hb.out (fun k_ hk_ => .inl hk_))
         refine one_ (i := 10) (N := some 57) #[true, true, true, true, true, true, true, true, true, true, true, true, true, true, false, false] rfl rfl (one_of HT_.out (by kernel_rfl)) (by decide) (fun K hK => ?_)
         refine Kd.R_append_rows_step (Kd.int .i64) (w0 := w) w.heap.size (by rfl) (.tmp 51) (.tmp 56) 37 3 (.int .i64 0) 8 rfl Try.underlying37 info3 rfl (by decide) (by omega) _ _ _ _ _ _ _ (fun _ => False) rfl rfl Hb.out ((Kd.R_reads' Hc.out).2.2) (fun _ _ h => h) (fun _ h => h.elim) (fun k_ hk_ => .inr hk_) HB.out HB.out.size (by simp only [List.length_take, List.length_cons, List.length_nil]; omega) ?_
         intro vd w37 hr hb_ hg_ hat_
         replace HOU := Aside0.mk (Kd.R_grown HOU.out hg_ (fun k_ hk_ e_ => (Hb.out.1 k_ e_.symm).elim (fun h_ => Nat.not_lt.2 h_ hk_) (fun h_ => Nat.not_lt.2 (Nat.le_trans HSZ.out h_) hk_)))
         replace HSZ := Aside0.mk (Nat.le_trans HSZ.out hg_.size)
         replace HB := Aside0.mk hb_
         have Hd := Aside0.mk hr
         clear hr hb_ hg_ hat_
         clear Hb Hc
         refine hK.out _ _ ((HB.out.cell (World.block_lt_of_cell? w _ hx0)).trans hx0) (fun hHeld => ?_)
         clear hK K
         refine norm_ (a' := ?_) ?_ ?_
         rotate_left
         ·show Act.put _ (some 57) _ = _
          simp only [Act.put, List.setIfInBounds_toArray, List.set_cons_zero, List.set_cons_succ, i64_w, i32_w]
          rfl
         replace Hd := Aside0.mk (Kd.R_mono (ok' := fun k_ => True) Hd.out (fun k_ hk_ => trivial))
         refine one_ (i := 14) (N := some 61) #[true, true, true, true, true, true, true, true, true, true, true, true, true, true, true, false] rfl rfl (one_of HT_.out (by kernel_rfl)) (by decide) (fun K hK => ?_)
         refine Kd.R_append_rows_step (Kd.int .i64) (w0 := w) w.heap.size (by rfl) (.tmp 57) (.tmp 60) 37 3 (.int .i64 0) 8 rfl Try.underlying37 info3 rfl (by decide) (by omega) _ _ _ _ _ _ _ (fun _ => False) rfl rfl Hd.out ((R_cdrop HOU.out hjl (R_cap HOU.out))) (fun _ _ h => h) (fun _ h => h.elim) (fun k_ hk_ => trivial) HB.out HB.out.size (by simp only [List.length_append, List.length_take, List.length_cons, List.length_nil]; omega) ?_
         intro ve w38 hr hb_ hg_ hat_
         replace HSZ := Aside0.mk (Nat.le_trans HSZ.out hg_.size)
         replace HB := Aside0.mk hb_
         have He := Aside0.mk hr
         clear hr hb_ hg_ hat_
         clear Hd HOU HSZ SZ
         refine hK.out _ _ ((HB.out.cell (World.block_lt_of_cell? w _ hx0)).trans hx0) (fun hHeld => ?_)
         clear hK K
         refine norm_ (a' := ?_) ?_ ?_
         rotate_left
         ·show Act.put _ (some 61) _ = _
          simp only [Act.put, List.setIfInBounds_toArray, List.set_cons_zero, List.set_cons_succ, i64_w, i32_w]
          rfl
         refine pure_ (i := 15) (N := some 4) (v := ?_) (a' := ?_) #[true, true, true, true, true, true, true, true, true, true, true, true, true, true, true, true] rfl rfl (any_of HT_.out (by kernel_rfl)) (fun _ _ _ h => h) (Or.inl ⟨by rfl, ?_⟩) ?_ ?_
         rotate_left
         ·intro w'
          go_simp
          with_reducible rfl
         rotate_left
         ·simp only [Act.put, List.setIfInBounds_toArray, List.set_cons_zero, List.set_cons_succ, i64_w, i32_w]
          rfl
         refine done_ (done_of HT_.out (by kernel_rfl)) ?_
         clear hHeld HT_ HW_
         have hl9 : (insR x ys).length ≤ kk + 1 := Nat.le_trans (insR_len x ys) (by omega)
         have hHe := He.out
         rw [← HI.out] at hHe
         obtain ⟨A9, c9, e9⟩ := Kd.R_slice hHe
         subst e9
         obtain ⟨a9, h9, -⟩ := Kd.at_int (Kd.R_reads' hHe).2.2 0 (Int.le_refl _) (by rw [HI.out]; simp only [List.length_append, List.length_cons, List.length_nil]; omega)
         subst h9
         have HO := Aside0.mk hHe
         have HY9 : Aside0 (∀ y_ ∈ insR x ys, inR y_) := ⟨insR_in HXI.out HYI.out⟩
         clear hHe He HI
         generalize (if c = jj then some ad else some (ad.add jj)) = A60_
         go_wp2
         go_roundg (l0.length - (kk + 1))
         case measure => omega
         case rel => exact ⟨kk + 1, a9, c9, insR x ys, by go_num, by omega, by omega, rfl, hl9, HY9, HRES, HO, HB⟩
        ·replace Ha := Aside0.mk (Kd.R_bound Ha.out)
         obtain ⟨L, hL⟩ : ∃ s, w31.heap.size = s := ⟨_, rfl⟩
         have HL0 := Aside0.mk hL
         refine Kd.R_lit_step (Kd.int .i64) (w0 := w) w.heap.size 3 (by rfl) (N := 56) rfl (xs := ([x] : List Int)) (inner := [.int .i64 x]) (ok := fun k_ => w31.heap.size ≤ k_) (okp := fun _ => False) (by go_simp; done) (Kd.reps_scalar [x]) (fun _ hk => hk.elim) (Nat.le_refl _) HB.out HB.out.size (by simp) ?_
         intro vc w32 hr hb_ hg_ hat_
         replace HOU := Aside0.mk (Kd.R_grown HOU.out hg_ (fun _ _ hk => by cases hk))
         replace Ha := Aside0.mk (Kd.R_grown Ha.out hg_ (fun _ _ hk => by cases hk))
         replace HSZ := Aside0.mk (Nat.le_trans HSZ.out hg_.size)
         replace HB := Aside0.mk hb_
         have Hc := Aside0.mk hr
         clear hr hb_ hg_ hat_
         clear HL0 hL L
         refine hK.out _ _ ((HB.out.cell (World.block_lt_of_cell? w _ hx0)).trans hx0) (fun hHeld => ?_)
         clear hK K
         refine norm_ (a' := ?_) ?_ ?_
         rotate_left
         ·show Act.put _ (some 56) _ = _
          simp only [Act.put, List.setIfInBounds_toArray, List.set_cons_zero, List.set_cons_succ, i64_w, i32_w]
          rfl
         have HSZ0 := HSZ
         have Ha2 := Aside0.mk (Kd.R_mono (ok' := fun k_ => SZ ≤ k_ ∨ w32.heap.size ≤ k_) Ha.out (fun k_ hk_ => .inl hk_.1))
         refine one_ (i := 4) (N := some 51) #[true, true, true, true, true, true, true, true, true, true, false, true, true, true, false, false] rfl rfl (one_of HT_.out (by kernel_rfl)) (by decide) (fun K hK => ?_)
         refine Kd.R_append_rows_step (Kd.int .i64) (w0 := w) w.heap.size (by rfl) (.tmp 47) (.tmp 50) 37 3 (.int .i64 0) 8 rfl Try.underlying37 info3 rfl (by decide) (by omega) _ _ _ _ _ _ _ (fun _ => False) rfl rfl Ha2.out ((R_ctake HOU.out hjl)) (fun _ _ h => h) (fun _ h => h.elim) (fun k_ hk_ => .inr hk_) HB.out HB.out.size (by simp only [List.length_nil]; omega) ?_
         intro vb w33 hr hb_ hg_ hat_
         rw [List.nil_append] at hr
         replace HOU := Aside0.mk (Kd.R_grown HOU.out hg_ (fun k_ hk_ e_ => Nat.not_lt.2 (Ha.out.1 k_ e_.symm).1 hk_))
         replace Hc := Aside0.mk (Kd.R_grown Hc.out hg_ (fun k_ hk_ e_ => Nat.not_lt.2 hk_ (Ha.out.1 k_ e_.symm).2.2.1))
         replace HSZ := Aside0.mk (Nat.le_trans HSZ.out hg_.size)
         replace HB := Aside0.mk hb_
         have Hb := Aside0.mk hr
         clear hr hb_ hg_ hat_
         replace Hb := Aside0.mk (Kd.R_mono (ok' := fun k_ => SZ ≤ k_) Hb.out (fun k_ hk_ => hk_.elim id (fun h_ => Nat.le_trans HSZ0.out h_)))
         clear Ha Ha2 HSZ0
         refine hK.out _ _ ((HB.out.cell (World.block_lt_of_cell? w _ hx0)).trans hx0) (fun hHeld => ?_)
         clear hK K
         refine norm_ (a' := ?_) ?_ ?_
         rotate_left
         ·show Act.put _ (some 51) _ = _
          simp only [Act.put, List.setIfInBounds_toArray, List.set_cons_zero, List.set_cons_succ, i64_w, i32_w]
          rfl
         obtain ⟨Ac_, cc_, ec_⟩ := Kd.R_slice Hc.out
         subst ec_
         replace Hb := Aside0.mk (Kd.R_mono (ok' := fun k_ => SZ ≤ k_ ∨ w33.heap.size ≤ k_) Hb.out (fun k_ hk_ => .inl hk_))
         refine one_ (i := 10) (N := some 57) #[true, true, true, true, true, true, true, true, true, true, true, true, true, true, false, false] rfl rfl (one_of HT_.out (by kernel_rfl)) (by decide) (fun K hK => ?_)
         refine Kd.R_append_rows_step (Kd.int .i64) (w0 := w) w.heap.size (by rfl) (.tmp 51) (.tmp 56) 37 3 (.int .i64 0) 8 rfl Try.underlying37 info3 rfl (by decide) (by omega) _ _ _ _ _ _ _ (fun _ => False) rfl rfl Hb.out ((Kd.R_reads' Hc.out).2.2) (fun _ _ h => h) (fun _ h => h.elim) (fun k_ hk_ => .inr hk_) HB.out HB.out.size (by simp only [List.length_take, List.length_cons, List.length_nil]; omega) ?_
         intro vd w37 hr hb_ hg_ hat_
         replace HOU := Aside0.mk (Kd.R_grown HOU.out hg_ (fun k_ hk_ e_ => (Hb.out.1 k_ e_.symm).elim (fun h_ => Nat.not_lt.2 h_ hk_) (fun h_ => Nat.not_lt.2 (Nat.le_trans HSZ.out h_) hk_)))
         replace HSZ := Aside0.mk (Nat.le_trans HSZ.out hg_.size)
         replace HB := Aside0.mk hb_
         have Hd := Aside0.mk hr
         clear hr hb_ hg_ hat_
         clear Hb Hc
         refine hK.out _ _ ((HB.out.cell (World.block_lt_of_cell? w _ hx0)).trans hx0) (fun hHeld => ?_)
         clear hK K
         refine norm_ (a' := ?_) ?_ ?_
         rotate_left
         ·show Act.put _ (some 57) _ = _
          simp only [Act.put, List.setIfInBounds_toArray, List.set_cons_zero, List.set_cons_succ, i64_w, i32_w]
          rfl
         replace Hd := Aside0.mk (Kd.R_mono (ok' := fun k_ => True) Hd.out (fun k_ hk_ => trivial))
         refine one_ (i := 14) (N := some 61) #[true, true, true, true, true, true, true, true, true, true, true, true, true, true, true, false] rfl rfl (one_of HT_.out (by kernel_rfl)) (by decide) (fun K hK => ?_)
         refine Kd.R_append_rows_step (Kd.int .i64) (w0 := w) w.heap.size (by rfl) (.tmp 57) (.tmp 60) 37 3 (.int .i64 0) 8 rfl Try.underlying37 info3 rfl (by decide) (by omega) _ _ _ _ _ _ _ (fun _ => False) rfl rfl Hd.out ((R_cdrop HOU.out hjl (R_cap HOU.out))) (fun _ _ h => h) (fun _ h => h.elim) (fun k_ hk_ => trivial) HB.out HB.out.size (by simp only [List.length_append, List.length_take, List.length_cons, List.length_nil]; omega) ?_
         intro ve w38 hr hb_ hg_ hat_
         replace HSZ := Aside0.mk (Nat.le_trans HSZ.out hg_.size)
         replace HB := Aside0.mk hb_
         have He := Aside0.mk hr
         clear hr hb_ hg_ hat_
         clear Hd HOU HSZ SZ
         refine hK.out _ _ ((HB.out.cell (World.block_lt_of_cell? w _ hx0)).trans hx0) (fun hHeld => ?_)
         clear hK K
         refine norm_ (a' := ?_) ?_ ?_
         rotate_left
         ·show Act.put _ (some 61) _ = _
          simp only [Act.put, List.setIfInBounds_toArray, List.set_cons_zero, List.set_cons_succ, i64_w, i32_w]
          rfl
         refine pure_ (i := 15) (N := some 4) (v := ?_) (a' := ?_) #[true, true, true, true, true, true, true, true, true, true, true, true, true, true, true, true] rfl rfl (any_of HT_.out (by kernel_rfl)) (fun _ _ _ h => h) (Or.inl ⟨by rfl, ?_⟩) ?_ ?_
         rotate_left
         ·intro w'
          go_simp
          with_reducible rfl
         rotate_left
         ·simp only [Act.put, List.setIfInBounds_toArray, List.set_cons_zero, List.set_cons_succ, i64_w, i32_w]
          rfl
         refine done_ (done_of HT_.out (by kernel_rfl)) ?_
         clear hHeld HT_ HW_
         have hl9 : (insR x ys).length ≤ kk + 1 := Nat.le_trans (insR_len x ys) (by omega)
         have hHe := He.out
         rw [← HI.out] at hHe
         obtain ⟨A9, c9, e9⟩ := Kd.R_slice hHe
         subst e9
         obtain ⟨a9, h9, -⟩ := Kd.at_int (Kd.R_reads' hHe).2.2 0 (Int.le_refl _) (by rw [HI.out]; simp only [List.length_append, List.length_cons, List.length_nil]; omega)
         subst h9
         have HO := Aside0.mk hHe
         have HY9 : Aside0 (∀ y_ ∈ insR x ys, inR y_) := ⟨insR_in HXI.out HYI.out⟩
         clear hHe He HI
         generalize (if c = jj then some ad else some (ad.add jj)) = A60_
         go_wp2
         go_roundg (l0.length - (kk + 1))
         case measure => omega
         case rel => exact ⟨kk + 1, a9, c9, insR x ys, by go_num, by omega, by omega, rfl, hl9, HY9, HRES, HO, HB⟩
       ·refine Kd.R_lit_step (Kd.int .i64) (w0 := w) w.heap.size 3 (by rfl) (N := 56) rfl (xs := ([x] : List Int)) (inner := [.int .i64 x]) (ok := fun _ => True) (okp := fun _ => False) (by go_simp; done) (Kd.reps_scalar [x]) (fun _ hk => hk.elim) trivial HB.out HB.out.size (by simp) ?_
        intro vc w31 hr hb_ hg_ hat_
        replace HOU := Aside0.mk (Kd.R_grown HOU.out hg_ (fun _ _ hk => by cases hk))
        replace HSZ := Aside0.mk (Nat.le_trans HSZ.out hg_.size)
        replace HB := Aside0.mk hb_
        have Hc := Aside0.mk hr
        clear hr hb_ hg_ hat_
        refine hK.out _ _ ((HB.out.cell (World.block_lt_of_cell? w _ hx0)).trans hx0) (fun hHeld => ?_)
        clear hK K
        refine norm_ (a' := ?_) ?_ ?_
        rotate_left
        ·show Act.put _ (some 56) _ = _
         simp only [Act.put, List.setIfInBounds_toArray, List.set_cons_zero, List.set_cons_succ, i64_w, i32_w]
         rfl
        replace Hc := Aside0.mk (Kd.R_bound Hc.out)
        refine one_ (i := 0) (N := some 47) #[true, true, true, true, false, true, true, true, true, true, false, true, true, true, false, false] rfl rfl (one_of HT_.out (by kernel_rfl)) (by decide) (fun K hK => ?_)
        refine Kd.R_lit_step (Kd.int .i64) (w0 := w) w.heap.size 3 (by rfl) (N := 47) rfl (xs := ([] : List Int)) (inner := []) (ok := fun k_ => w31.heap.size ≤ k_) (okp := fun _ => False) (by go_simp; done) (Reps.none _ _) (fun _ hk => hk.elim) (Nat.le_refl _) HB.out HB.out.size (by simp) ?_
        intro va w32 hr hb_ hg_ hat_
        replace HOU := Aside0.mk (Kd.R_grown HOU.out hg_ (fun _ _ hk => by cases hk))
        replace Hc := Aside0.mk (Kd.R_grown Hc.out hg_ (fun _ _ hk => by cases hk))
        have HSZ1 := HSZ
        replace HSZ := Aside0.mk (Nat.le_trans HSZ.out hg_.size)
        replace HB := Aside0.mk hb_
        have Ha := Aside0.mk hr
        clear hr hb_ hg_ hat_
        refine hK.out _ _ ((HB.out.cell (World.block_lt_of_cell? w _ hx0)).trans hx0) (fun hHeld => ?_)
        clear hK K
        refine norm_ (a' := ?_) ?_ ?_
        rotate_left
        ·show Act.put _ (some 47) _ = _
         simp only [Act.put, List.setIfInBounds_toArray, List.set_cons_zero, List.set_cons_succ, i64_w, i32_w]
         rfl
        have HSZ0 := HSZ
        have Ha2 := Aside0.mk (Kd.R_mono (ok' := fun k_ => SZ ≤ k_ ∨ w32.heap.size ≤ k_) Ha.out (fun k_ hk_ => .inl (Nat.le_trans HSZ1.out hk_)))
        refine one_ (i := 4) (N := some 51) #[true, true, true, true, true, true, true, true, true, true, false, true, true, true, false, false] rfl rfl (one_of HT_.out (by kernel_rfl)) (by decide) (fun K hK => ?_)
        refine Kd.R_append_rows_step (Kd.int .i64) (w0 := w) w.heap.size (by rfl) (.tmp 47) (.tmp 50) 37 3 (.int .i64 0) 8 rfl Try.underlying37 info3 rfl (by decide) (by omega) _ _ _ _ _ _ _ (fun _ => False) rfl rfl Ha2.out ((R_ctake HOU.out hjl)) (fun _ _ h => h) (fun _ h => h.elim) (fun k_ hk_ => .inr hk_) HB.out HB.out.size (by simp only [List.length_nil]; omega) ?_
        intro vb w33 hr hb_ hg_ hat_
        rw [List.nil_append] at hr
        replace HOU := Aside0.mk (Kd.R_grown HOU.out hg_ (fun k_ hk_ e_ => Nat.not_lt.2 (Nat.le_trans HSZ1.out (Ha.out.1 k_ e_.symm)) hk_))
        replace Hc := Aside0.mk (Kd.R_grown Hc.out hg_ (fun k_ hk_ e_ => Nat.not_lt.2 (Ha.out.1 k_ e_.symm) hk_.2.2.1))
        replace HSZ := Aside0.mk (Nat.le_trans HSZ.out hg_.size)
        replace HB := Aside0.mk hb_
        have Hb := Aside0.mk hr
        clear hr hb_ hg_ hat_
        replace Hb := Aside0.mk (Kd.R_mono (ok' := fun k_ => SZ ≤ k_) Hb.out (fun k_ hk_ => hk_.elim id (fun h_ => Nat.le_trans HSZ0.out h_)))
        clear Ha Ha2 HSZ0 HSZ1
        refine hK.out _ _ ((HB.out.cell (World.block_lt_of_cell? w _ hx0)).trans hx0) (fun hHeld => ?_)
        clear hK K
        refine norm_ (a' := ?_) ?_ ?_
        rotate_left
        ·show Act.put _ (some 51) _ = _
         simp only [Act.put, List.setIfInBounds_toArray, List.set_cons_zero, List.set_cons_succ, i64_w, i32_w]
         rfl
        obtain ⟨Ac_, cc_, ec_⟩ := Kd.R_slice Hc.out
        subst ec_
        replace Hb := Aside0.mk (Kd.R_mono (ok' := fun k_ => SZ ≤ k_ ∨ w33.heap.size ≤ k_) Hb.out (fun k_ hk_ => .inl hk_))
        refine one_ (i := 10) (N := some 57) #[true, true, true, true, true, true, true, true, true, true, true, true, true, true, false, false] rfl rfl (one_of HT_.out (by kernel_rfl)) (by decide) (fun K hK => ?_)
        refine Kd.R_append_rows_step (Kd.int .i64) (w0 := w) w.heap.size (by rfl) (.tmp 51) (.tmp 56) 37 3 (.int .i64 0) 8 rfl Try.underlying37 info3 rfl (by decide) (by omega) _ _ _ _ _ _ _ (fun _ => False) rfl rfl Hb.out ((Kd.R_reads' Hc.out).2.2) (fun _ _ h => h) (fun _ h => h.elim) (fun k_ hk_ => .inr hk_) HB.out HB.out.size (by simp only [List.length_take, List.length_cons, List.length_nil]; omega) ?_
        intro vd w37 hr hb_ hg_ hat_
        replace HOU := Aside0.mk (Kd.R_grown HOU.out hg_ (fun k_ hk_ e_ => (Hb.out.1 k_ e_.symm).elim (fun h_ => Nat.not_lt.2 h_ hk_) (fun h_ => Nat.not_lt.2 (Nat.le_trans HSZ.out h_) hk_)))
        replace HSZ := Aside0.mk (Nat.le_trans HSZ.out hg_.size)
        replace HB := Aside0.mk hb_
        have Hd := Aside0.mk hr
        clear hr hb_ hg_ hat_
        clear Hb Hc
        refine hK.out _ _ ((HB.out.cell (World.block_lt_of_cell? w _ hx0)).trans hx0) (fun hHeld => ?_)
        clear hK K
        refine norm_ (a' := ?_) ?_ ?_
        rotate_left
        ·show Act.put _ (some 57) _ = _
         simp only [Act.put, List.setIfInBounds_toArray, List.set_cons_zero, List.set_cons_succ, i64_w, i32_w]
         rfl
        replace Hd := Aside0.mk (Kd.R_mono (ok' := fun k_ => True) Hd.out (fun k_ hk_ => trivial))
        refine one_ (i := 14) (N := some 61) #[true, true, true, true, true, true, true, true, true, true, true, true, true, true, true, false] rfl rfl (one_of HT_.out (by kernel_rfl)) (by decide) (fun K hK => ?_)
        refine Kd.R_append_rows_step (Kd.int .i64) (w0 := w) w.heap.size (by rfl) (.tmp 57) (.tmp 60) 37 3 (.int .i64 0) 8 rfl Try.underlying37 info3 rfl (by decide) (by omega) _ _ _ _ _ _ _ (fun _ => False) rfl rfl Hd.out ((R_cdrop HOU.out hjl (R_cap HOU.out))) (fun _ _ h => h) (fun _ h => h.elim) (fun k_ hk_ => trivial) HB.out HB.out.size (by simp only [List.length_append, List.length_take, List.length_cons, List.length_nil]; omega) ?_
        intro ve w38 hr hb_ hg_ hat_
        replace HSZ := Aside0.mk (Nat.le_trans HSZ.out hg_.size)
        replace HB := Aside0.mk hb_
        have He := Aside0.mk hr
        clear hr hb_ hg_ hat_
        clear Hd HOU HSZ SZ
        refine hK.out _ _ ((HB.out.cell (World.block_lt_of_cell? w _ hx0)).trans hx0) (fun hHeld => ?_)
        clear hK K
        refine norm_ (a' := ?_) ?_ ?_
        rotate_left
        ·show Act.put _ (some 61) _ = _
         simp only [Act.put, List.setIfInBounds_toArray, List.set_cons_zero, List.set_cons_succ, i64_w, i32_w]
         rfl
        refine pure_ (i := 15) (N := some 4) (v := ?_) (a' := ?_) #[true, true, true, true, true, true, true, true, true, true, true, true, true, true, true, true] rfl rfl (any_of HT_.out (by kernel_rfl)) (fun _ _ _ h => h) (Or.inl ⟨by rfl, ?_⟩) ?_ ?_
        rotate_left
        ·intro w'
         go_simp
         with_reducible rfl
        rotate_left
        ·simp only [Act.put, List.setIfInBounds_toArray, List.set_cons_zero, List.set_cons_succ, i64_w, i32_w]
         rfl
        refine done_ (done_of HT_.out (by kernel_rfl)) ?_
        clear hHeld HT_ HW_
        have hl9 : (insR x ys).length ≤ kk + 1 := Nat.le_trans (insR_len x ys) (by omega)
        have hHe := He.out
        rw [← HI.out] at hHe
        obtain ⟨A9, c9, e9⟩ := Kd.R_slice hHe
        subst e9
        obtain ⟨a9, h9, -⟩ := Kd.at_int (Kd.R_reads' hHe).2.2 0 (Int.le_refl _) (by rw [HI.out]; simp only [List.length_append, List.length_cons, List.length_nil]; omega)
        subst h9
        have HO := Aside0.mk hHe
        have HY9 : Aside0 (∀ y_ ∈ insR x ys, inR y_) := ⟨insR_in HXI.out HYI.out⟩
        clear hHe He HI
        generalize (if c = jj then some ad else some (ad.add jj)) = A60_
        go_wp2
        go_roundg (l0.length - (kk + 1))
        case measure => omega
        case rel => exact ⟨kk + 1, a9, c9, insR x ys, by go_num, by omega, by omega, rfl, hl9, HY9, HRES, HO, HB⟩
    ·have hjz : ¬ (jj : Int) < (ys.length : Int) := by omega
     have hjl : jj ≤ ys.length := hjj
     have hJ := HJ.out
     rw [List.drop_of_length_le (by omega), cntB, Nat.add_zero] at hJ
     have hI : insR x ys = ys.take jj ++ [x] ++ ys.drop jj := by unfold insR; rw [← hJ, if_neg (by rw [List.getElem?_eq_none (by omega)]; simp)]
     have HI := Aside0.mk hI
     have HX0 := Aside0.mk hx0
     clear hJ HJ hI hx0
     go_upto_region 6 with fail
     have hbd := below_drew (Below.refl wr.heap.size wr)
     replace HO := Aside0.mk (Kd.R_below HO.out hbd)
     replace HB := Aside0.mk (HB.out.trans (hbd.mono HB.out.size))
     clear hbd
     generalize hw9 : wr.drew = w20 at *
     refine start_ (n := 15) (S := fun w' => True) (ds := []) #[false, false, false, false, false, false, false, false, false, false, false, false, false, false, false] (by kernel_rfl) rfl rfl trivial (fun hHeld => ?_)
     refine with_tabW so6_tab so6_bits (fun HT_ HW_ => ?_)
     rw [hw9]
     clear hw9
     refine pure_ (i := 0) (N := some 15) (v := ?_) (a' := ?_) #[true, false, false, false, false, false, false, false, false, false, false, false, false, false, false] rfl rfl (any_of HT_.out (by kernel_rfl)) (fun _ _ _ h => h) (Or.inl ⟨by rfl, ?_⟩) ?_ ?_
     rotate_left
     ·intro w'
      go_simp
      with_reducible rfl
     rotate_left
     ·simp only [Act.put, List.setIfInBounds_toArray, List.set_cons_zero, List.set_cons_succ, i64_w, i32_w]
      rfl
     refine pure_ (i := 1) (N := some 16) (v := ?_) (a' := ?_) #[true, true, false, false, false, false, false, false, false, false, false, false, false, false, false] rfl rfl (any_of HT_.out (by kernel_rfl)) (fun _ _ _ h => h) (Or.inl ⟨by rfl, ?_⟩) ?_ ?_
     rotate_left
     ·intro w'
      go_simp
      with_reducible rfl
     rotate_left
     ·simp only [Act.put, List.setIfInBounds_toArray, List.set_cons_zero, List.set_cons_succ, i64_w, i32_w]
      rfl
     refine pure_ (i := 2) (N := some 17) (v := ?_) (a' := ?_) #[true, true, true, false, false, false, false, false, false, false, false, false, false, false, false] rfl rfl (any_of HT_.out (by kernel_rfl)) (fun _ _ _ h => h) (Or.inl ⟨by rfl, ?_⟩) ?_ ?_
     rotate_left
     ·intro w'
      go_simp
      with_reducible rfl
     rotate_left
     ·simp only [Act.put, List.setIfInBounds_toArray, List.set_cons_zero, List.set_cons_succ, i64_w, i32_w]
      rfl
     refine pure_ (i := 3) (N := some 18) (v := ?_) (a' := ?_) #[true, true, true, true, false, false, false, false, false, false, false, false, false, false, false] rfl rfl (any_of HT_.out (by kernel_rfl)) (fun _ _ _ h => h) (Or.inl ⟨by rfl, ?_⟩) ?_ ?_
     rotate_left
     ·intro w'
      go_simp
      with_reducible rfl
     rotate_left
     ·simp only [Act.put, List.setIfInBounds_toArray, List.set_cons_zero, List.set_cons_succ, i64_w, i32_w]
      rfl
     refine pure_ (i := 4) (N := some 19) (v := ?_) (a' := ?_) #[true, true, true, true, true, false, false, false, false, false, false, false, false, false, false] rfl rfl (any_of HT_.out (by kernel_rfl)) (fun _ _ _ h => h) (Or.inl ⟨by rfl, ?_⟩) ?_ ?_
     rotate_left
     ·intro w'
      go_simp
      with_reducible rfl
     rotate_left
     ·simp only [Act.put, List.setIfInBounds_toArray, List.set_cons_zero, List.set_cons_succ, i64_w, i32_w]
      rfl
     refine pure_ (i := 5) (N := some 20) (v := undef) (a' := ?_) #[true, true, true, true, true, true, false, false, false, false, false, false, false, false, false] rfl rfl (any_of HT_.out (by kernel_rfl)) (fun _ _ _ h => h) (Or.inr ⟨by rfl, rfl⟩) ?_ ?_
     rotate_left
     ·simp only [Act.put, List.setIfInBounds_toArray, List.set_cons_zero, List.set_cons_succ, i64_w, i32_w]
      rfl
     refine pure_ (i := 6) (N := some 21) (v := undef) (a' := ?_) #[true, true, true, true, true, true, true, false, false, false, false, false, false, false, false] rfl rfl (any_of HT_.out (by kernel_rfl)) (fun _ _ _ h => h) (Or.inr ⟨by rfl, rfl⟩) ?_ ?_
     rotate_left
     ·simp only [Act.put, List.setIfInBounds_toArray, List.set_cons_zero, List.set_cons_succ, i64_w, i32_w]
      rfl
     refine pure_ (i := 7) (N := some 22) (v := undef) (a' := ?_) #[true, true, true, true, true, true, true, true, false, false, false, false, false, false, false] rfl rfl (any_of HT_.out (by kernel_rfl)) (fun _ _ _ h => h) (Or.inr ⟨by rfl, rfl⟩) ?_ ?_
     rotate_left
     ·simp only [Act.put, List.setIfInBounds_toArray, List.set_cons_zero, List.set_cons_succ, i64_w, i32_w]
      rfl
     refine pure_ (i := 8) (N := some 23) (v := undef) (a' := ?_) #[true, true, true, true, true, true, true, true, true, false, false, false, false, false, false] rfl rfl (any_of HT_.out (by kernel_rfl)) (fun _ _ _ h => h) (Or.inr ⟨by rfl, rfl⟩) ?_ ?_
     rotate_left
     ·simp only [Act.put, List.setIfInBounds_toArray, List.set_cons_zero, List.set_cons_succ, i64_w, i32_w]
      rfl
     refine pure_ (i := 9) (N := some 24) (v := undef) (a' := ?_) #[true, true, true, true, true, true, true, true, true, true, false, false, false, false, false] rfl rfl (any_of HT_.out (by kernel_rfl)) (fun _ _ _ h => h) (Or.inr ⟨by rfl, rfl⟩) ?_ ?_
     rotate_left
     ·simp only [Act.put, List.setIfInBounds_toArray, List.set_cons_zero, List.set_cons_succ, i64_w, i32_w]
      rfl
     refine pure_ (i := 10) (N := some 25) (v := undef) (a' := ?_) #[true, true, true, true, true, true, true, true, true, true, true, false, false, false, false] rfl rfl (any_of HT_.out (by kernel_rfl)) (fun _ _ _ h => h) (Or.inr ⟨by rfl, rfl⟩) ?_ ?_
     rotate_left
     ·simp only [Act.put, List.setIfInBounds_toArray, List.set_cons_zero, List.set_cons_succ, i64_w, i32_w]
      rfl
     refine pure_ (i := 11) (N := some 26) (v := undef) (a' := ?_) #[true, true, true, true, true, true, true, true, true, true, true, true, false, false, false] rfl rfl (any_of HT_.out (by kernel_rfl)) (fun _ _ _ h => h) (Or.inr ⟨by rfl, rfl⟩) ?_ ?_
     rotate_left
     ·simp only [Act.put, List.setIfInBounds_toArray, List.set_cons_zero, List.set_cons_succ, i64_w, i32_w]
      rfl
     refine pure_ (i := 12) (N := some 27) (v := undef) (a' := ?_) #[true, true, true, true, true, true, true, true, true, true, true, true, true, false, false] rfl rfl (any_of HT_.out (by kernel_rfl)) (fun _ _ _ h => h) (Or.inr ⟨by rfl, rfl⟩) ?_ ?_
     rotate_left
     ·simp only [Act.put, List.setIfInBounds_toArray, List.set_cons_zero, List.set_cons_succ, i64_w, i32_w]
      rfl
     refine one_ (i := 13) (N := some 28) #[true, true, true, true, true, true, true, true, true, true, true, true, true, true, false] rfl rfl (one_of HT_.out (by kernel_rfl)) (by decide) (fun K hK => ?_)
     refine off_ (by rfl) ?_
     refine hK.out _ _ trivial (fun hHeld => ?_)
     clear hK K
     refine norm_ (a' := ?_) ?_ ?_
     rotate_left
     ·show Act.put _ (some 28) _ = _
      simp only [Act.put, List.setIfInBounds_toArray, List.set_cons_zero, List.set_cons_succ, i64_w, i32_w]
      rfl
     refine pure_ (i := 14) (N := some 29) (v := ?_) (a' := ?_) #[true, true, true, true, true, true, true, true, true, true, true, true, true, true, true] rfl rfl (any_of HT_.out (by kernel_rfl)) (fun _ _ _ h => h) (Or.inl ⟨by rfl, ?_⟩) ?_ ?_
     rotate_left
     ·intro w'
      go_simp
      with_reducible rfl
     rotate_left
     ·simp only [Act.put, List.setIfInBounds_toArray, List.set_cons_zero, List.set_cons_succ, i64_w, i32_w]
      rfl
     refine done_ (done_of HT_.out (by kernel_rfl)) ?_
     clear hHeld HT_ HW_
     go_upto_region 8 with fail
     obtain ⟨wr3, hwr3⟩ : ∃ z : World, z = w20 := ⟨_, rfl⟩
     subst hwr3
     have hbd := below_drew (Below.refl wr3.heap.size wr3)
     replace HO := Aside0.mk (Kd.R_below HO.out hbd)
     replace HB := Aside0.mk (HB.out.trans (hbd.mono HB.out.size))
     clear hbd
     generalize hw9 : wr3.drew = w30 at *
     refine start_ (n := 15) (S := fun w' => True) (ds := []) #[false, false, false, false, false, false, false, false, false, false, false, false, false, false, false] (by kernel_rfl) rfl rfl trivial (fun hHeld => ?_)
     refine with_tabW so8_tab so8_bits (fun HT_ HW_ => ?_)
     rw [hw9]
     clear hw9
     refine pure_ (i := 0) (N := some 32) (v := ?_) (a' := ?_) #[true, false, false, false, false, false, false, false, false, false, false, false, false, false, false] rfl rfl (any_of HT_.out (by kernel_rfl)) (fun _ _ _ h => h) (Or.inl ⟨by rfl, ?_⟩) ?_ ?_
     rotate_left
     ·intro w'
      go_simp
      with_reducible rfl
     rotate_left
     ·simp only [Act.put, List.setIfInBounds_toArray, List.set_cons_zero, List.set_cons_succ, i64_w, i32_w]
      rfl
     refine pure_ (i := 1) (N := some 33) (v := ?_) (a' := ?_) #[true, true, false, false, false, false, false, false, false, false, false, false, false, false, false] rfl rfl (any_of HT_.out (by kernel_rfl)) (fun _ _ _ h => h) (Or.inl ⟨by rfl, ?_⟩) ?_ ?_
     rotate_left
     ·intro w'
      go_simp
      with_reducible rfl
     rotate_left
     ·simp only [Act.put, List.setIfInBounds_toArray, List.set_cons_zero, List.set_cons_succ, i64_w, i32_w]
      rfl
     refine pure_ (i := 2) (N := some 34) (v := ?_) (a' := ?_) #[true, true, true, false, false, false, false, false, false, false, false, false, false, false, false] rfl rfl (any_of HT_.out (by kernel_rfl)) (fun _ _ _ h => h) (Or.inl ⟨by rfl, ?_⟩) ?_ ?_
     rotate_left
     ·intro w'
      go_simp
      with_reducible rfl
     rotate_left
     ·simp only [Act.put, List.setIfInBounds_toArray, List.set_cons_zero, List.set_cons_succ, i64_w, i32_w]
      rfl
     refine pure_ (i := 3) (N := some 35) (v := ?_) (a' := ?_) #[true, true, true, true, false, false, false, false, false, false, false, false, false, false, false] rfl rfl (any_of HT_.out (by kernel_rfl)) (fun _ _ _ h => h) (Or.inl ⟨by rfl, ?_⟩) ?_ ?_
     rotate_left
     ·intro w'
      go_simp
      with_reducible rfl
     rotate_left
     ·simp only [Act.put, List.setIfInBounds_toArray, List.set_cons_zero, List.set_cons_succ, i64_w, i32_w]
      rfl
     refine pure_ (i := 4) (N := some 36) (v := ?_) (a' := ?_) #[true, true, true, true, true, false, false, false, false, false, false, false, false, false, false] rfl rfl (any_of HT_.out (by kernel_rfl)) (fun _ _ _ h => h) (Or.inl ⟨by rfl, ?_⟩) ?_ ?_
     rotate_left
     ·intro w'
      go_simp
      with_reducible rfl
     rotate_left
     ·simp only [Act.put, List.setIfInBounds_toArray, List.set_cons_zero, List.set_cons_succ, i64_w, i32_w]
      rfl
     refine pure_ (i := 5) (N := some 37) (v := undef) (a' := ?_) #[true, true, true, true, true, true, false, false, false, false, false, false, false, false, false] rfl rfl (any_of HT_.out (by kernel_rfl)) (fun _ _ _ h => h) (Or.inr ⟨by rfl, rfl⟩) ?_ ?_
     rotate_left
     ·simp only [Act.put, List.setIfInBounds_toArray, List.set_cons_zero, List.set_cons_succ, i64_w, i32_w]
      rfl
     refine pure_ (i := 6) (N := some 38) (v := undef) (a' := ?_) #[true, true, true, true, true, true, true, false, false, false, false, false, false, false, false] rfl rfl (any_of HT_.out (by kernel_rfl)) (fun _ _ _ h => h) (Or.inr ⟨by rfl, rfl⟩) ?_ ?_
     rotate_left
     ·simp only [Act.put, List.setIfInBounds_toArray, List.set_cons_zero, List.set_cons_succ, i64_w, i32_w]
      rfl
     refine pure_ (i := 7) (N := some 39) (v := undef) (a' := ?_) #[true, true, true, true, true, true, true, true, false, false, false, false, false, false, false] rfl rfl (any_of HT_.out (by kernel_rfl)) (fun _ _ _ h => h) (Or.inr ⟨by rfl, rfl⟩) ?_ ?_
     rotate_left
     ·simp only [Act.put, List.setIfInBounds_toArray, List.set_cons_zero, List.set_cons_succ, i64_w, i32_w]
      rfl
     refine pure_ (i := 8) (N := some 40) (v := undef) (a' := ?_) #[true, true, true, true, true, true, true, true, true, false, false, false, false, false, false] rfl rfl (any_of HT_.out (by kernel_rfl)) (fun _ _ _ h => h) (Or.inr ⟨by rfl, rfl⟩) ?_ ?_
     rotate_left
     ·simp only [Act.put, List.setIfInBounds_toArray, List.set_cons_zero, List.set_cons_succ, i64_w, i32_w]
      rfl
     refine pure_ (i := 9) (N := some 41) (v := undef) (a' := ?_) #[true, true, true, true, true, true, true, true, true, true, false, false, false, false, false] rfl rfl (any_of HT_.out (by kernel_rfl)) (fun _ _ _ h => h) (Or.inr ⟨by rfl, rfl⟩) ?_ ?_
     rotate_left
     ·simp only [Act.put, List.setIfInBounds_toArray, List.set_cons_zero, List.set_cons_succ, i64_w, i32_w]
      rfl
     refine pure_ (i := 10) (N := some 42) (v := undef) (a' := ?_) #[true, true, true, true, true, true, true, true, true, true, true, false, false, false, false] rfl rfl (any_of HT_.out (by kernel_rfl)) (fun _ _ _ h => h) (Or.inr ⟨by rfl, rfl⟩) ?_ ?_
     rotate_left
     ·simp only [Act.put, List.setIfInBounds_toArray, List.set_cons_zero, List.set_cons_succ, i64_w, i32_w]
      rfl
     refine pure_ (i := 11) (N := some 43) (v := undef) (a' := ?_) #[true, true, true, true, true, true, true, true, true, true, true, true, false, false, false] rfl rfl (any_of HT_.out (by kernel_rfl)) (fun _ _ _ h => h) (Or.inr ⟨by rfl, rfl⟩) ?_ ?_
     rotate_left
     ·simp only [Act.put, List.setIfInBounds_toArray, List.set_cons_zero, List.set_cons_succ, i64_w, i32_w]
      rfl
     refine pure_ (i := 12) (N := some 44) (v := undef) (a' := ?_) #[true, true, true, true, true, true, true, true, true, true, true, true, true, false, false] rfl rfl (any_of HT_.out (by kernel_rfl)) (fun _ _ _ h => h) (Or.inr ⟨by rfl, rfl⟩) ?_ ?_
     rotate_left
     ·simp only [Act.put, List.setIfInBounds_toArray, List.set_cons_zero, List.set_cons_succ, i64_w, i32_w]
      rfl
     refine pure_ (i := 13) (N := some 45) (v := undef) (a' := ?_) #[true, true, true, true, true, true, true, true, true, true, true, true, true, true, false] rfl rfl (any_of HT_.out (by kernel_rfl)) (fun _ _ _ h => h) (Or.inr ⟨by rfl, rfl⟩) ?_ ?_
     rotate_left
     ·simp only [Act.put, List.setIfInBounds_toArray, List.set_cons_zero, List.set_cons_succ, i64_w, i32_w]
      rfl
     refine pure_ (i := 14) (N := some 46) (v := ?_) (a' := ?_) #[true, true, true, true, true, true, true, true, true, true, true, true, true, true, true] rfl rfl (any_of HT_.out (by kernel_rfl)) (fun _ _ _ h => h) (Or.inl ⟨by rfl, ?_⟩) ?_ ?_
     rotate_left
     ·intro w'
      go_simp
      with_reducible rfl
     rotate_left
     ·simp only [Act.put, List.setIfInBounds_toArray, List.set_cons_zero, List.set_cons_succ, i64_w, i32_w]
      rfl
     refine done_ (done_of HT_.out (by kernel_rfl)) ?_
     clear hHeld HT_ HW_
     go_upto_region 9 with fail
     have hx0 := HX0.out
     clear HX0
     obtain ⟨wr3, hwr3⟩ : ∃ z : World, z = w30 := ⟨_, rfl⟩
     subst hwr3
     have hjc : jj ≤ c := Nat.le_trans hjl (R_cap HO.out)
     have hbd := below_drew (Below.refl wr3.heap.size wr3)
     replace HO := Aside0.mk (Kd.R_below HO.out hbd)
     replace HB := Aside0.mk (HB.out.trans (hbd.mono HB.out.size))
     clear hbd
     generalize hw9 : wr3.drew = w30 at *
     have hx30 := ((HB.out.cell (World.block_lt_of_cell? w _ hx0)).trans hx0)
     refine start_ (n := 16) (S := fun w' => w'.cell? (adc.add kk) = some (.int .i64 x)) (ds := []) #[false, false, false, false, false, false, false, false, false, false, false, false, false, false, false, false] (by kernel_rfl) rfl rfl (by rw [hw9]; exact hx30) (fun hHeld => ?_)
     refine with_tabW so9_tab so9_bits (fun HT_ HW_ => ?_)
     rw [hw9] at hHeld ⊢
     clear hw9
     have HOU := Aside0.mk (Kd.R_mono (ok' := fun k_ => k_ < w30.heap.size) (Kd.R_bound HO.out) (fun k_ hk_ => hk_.2.2.1))
     clear HO hx30
     obtain ⟨SZ, hSZ⟩ : ∃ s, w30.heap.size = s := ⟨_, rfl⟩
     rw [hSZ] at HOU
     have HSZ := Aside0.mk (Nat.le_of_eq hSZ.symm)
     clear hSZ
     refine pure_ (i := 1) (N := some 48) (v := ?_) (a' := ?_) #[false, true, false, false, false, false, false, false, false, false, false, false, false, false, false, false] rfl rfl (any_of HT_.out (by kernel_rfl)) (fun _ _ _ h => h) (Or.inl ⟨by rfl, ?_⟩) ?_ ?_
     rotate_left
     ·intro w'
      go_simp
      with_reducible rfl
     rotate_left
     ·simp only [Act.put, List.setIfInBounds_toArray, List.set_cons_zero, List.set_cons_succ, i64_w, i32_w]
      rfl
     refine pure_ (i := 2) (N := some 49) (v := ?_) (a' := ?_) #[false, true, true, false, false, false, false, false, false, false, false, false, false, false, false, false] rfl rfl (any_of HT_.out (by kernel_rfl)) (fun _ _ _ h => h) (Or.inl ⟨by rfl, ?_⟩) ?_ ?_
     rotate_left
     ·intro w'
      go_simp
      with_reducible rfl
     rotate_left
     ·simp only [Act.put, List.setIfInBounds_toArray, List.set_cons_zero, List.set_cons_succ, i64_w, i32_w]
      rfl
     refine pure_ (i := 3) (N := some 50) (v := ?_) (a' := ?_) #[false, true, true, true, false, false, false, false, false, false, false, false, false, false, false, false] rfl rfl (any_of HT_.out (by kernel_rfl)) (fun _ _ _ h => h) (Or.inl ⟨by rfl, ?_⟩) ?_ ?_
     rotate_left
     ·intro w'
      go_simp
      with_reducible rfl
     rotate_left
     ·simp only [Act.put, List.setIfInBounds_toArray, List.set_cons_zero, List.set_cons_succ, i64_w, i32_w]
      rfl
     refine pure_ (i := 5) (N := some 52) (v := ?_) (a' := ?_) #[false, true, true, true, false, true, false, false, false, false, false, false, false, false, false, false] rfl rfl (any_of HT_.out (by kernel_rfl)) (fun _ _ _ h => h) (Or.inl ⟨by rfl, ?_⟩) ?_ ?_
     rotate_left
     ·intro w'
      go_simp
      with_reducible rfl
     rotate_left
     ·simp only [Act.put, List.setIfInBounds_toArray, List.set_cons_zero, List.set_cons_succ, i64_w, i32_w]
      rfl
     refine pure_ (i := 6) (N := some 53) (v := ?_) (a' := ?_) #[false, true, true, true, false, true, true, false, false, false, false, false, false, false, false, false] rfl rfl (any_of HT_.out (by kernel_rfl)) (fun _ _ _ h => h) (Or.inl ⟨by rfl, ?_⟩) ?_ ?_
     rotate_left
     ·intro w'
      go_simp
      with_reducible rfl
     rotate_left
     ·simp only [Act.put, List.setIfInBounds_toArray, List.set_cons_zero, List.set_cons_succ, i64_w, i32_w]
      rfl
     refine pure_ (i := 7) (N := some 54) (v := ?_) (a' := ?_) #[false, true, true, true, false, true, true, true, false, false, false, false, false, false, false, false] rfl rfl (any_of HT_.out (by kernel_rfl)) (fun _ _ _ h => h) (Or.inl ⟨by rfl, ?_⟩) ?_ ?_
     rotate_left
     ·intro w'
      go_simp
      with_reducible rfl
     rotate_left
     ·simp only [Act.put, List.setIfInBounds_toArray, List.set_cons_zero, List.set_cons_succ, i64_w, i32_w]
      rfl
     refine pure_ (i := 11) (N := some 58) (v := ?_) (a' := ?_) #[false, true, true, true, false, true, true, true, false, false, false, true, false, false, false, false] rfl rfl (any_of HT_.out (by kernel_rfl)) (fun _ _ _ h => h) (Or.inl ⟨by rfl, ?_⟩) ?_ ?_
     rotate_left
     ·intro w'
      go_simp
      with_reducible rfl
     rotate_left
     ·simp only [Act.put, List.setIfInBounds_toArray, List.set_cons_zero, List.set_cons_succ, i64_w, i32_w]
      rfl
     refine pure_ (i := 12) (N := some 59) (v := ?_) (a' := ?_) #[false, true, true, true, false, true, true, true, false, false, false, true, true, false, false, false] rfl rfl (any_of HT_.out (by kernel_rfl)) (fun _ _ _ h => h) (Or.inl ⟨by rfl, ?_⟩) ?_ ?_
     rotate_left
     ·intro w'
      go_simp
      with_reducible rfl
     rotate_left
     ·simp only [Act.put, List.setIfInBounds_toArray, List.set_cons_zero, List.set_cons_succ, i64_w, i32_w]
      rfl
     refine pure_ (i := 13) (N := some 60) (v := ?_) (a' := ?_) #[false, true, true, true, false, true, true, true, false, false, false, true, true, true, false, false] rfl rfl (any_of HT_.out (by kernel_rfl)) (fun _ _ _ h => h) (Or.inl ⟨by rfl, ?_⟩) ?_ ?_
     rotate_left
     ·intro w'
      go_simp
      with_reducible rfl
     rotate_left
     ·simp only [Act.put, List.setIfInBounds_toArray, List.set_cons_zero, List.set_cons_succ, i64_w, i32_w]
      rfl
     refine take_ (i := 8) (N := some 55) (v := ?_) (a' := ?_) #[false, true, true, true, false, true, true, true, true, false, false, true, true, true, false, false] rfl rfl (take_ofW HT_.out HW_.out (by kernel_rfl)) (fun _ _ _ h => h) (Or.inl ⟨by rfl, ?_⟩) hHeld ?_ ?_
     rotate_left
     ·intro w' s0
      go_simp
      with_reducible rfl
     rotate_left
     ·simp only [Act.put, List.setIfInBounds_toArray, List.set_cons_zero, List.set_cons_succ, i64_w, i32_w]
      rfl
     refine two_ (i := 0) (j := 9) (Ni := some 47) (Nj := some 56) #[true, true, true, true, false, true, true, true, true, false, false, true, true, true, false, false] #[false, true, true, true, false, true, true, true, true, true, false, true, true, true, false, false] rfl rfl rfl rfl (two_of HT_.out (by kernel_rfl)) (by decide) (by decide) (fun K hK => ?_) (fun K hK => ?_)
     ·refine Kd.R_lit_step (Kd.int .i64) (w0 := w) w.heap.size 3 (by rfl) (N := 47) rfl (xs := ([] : List Int)) (inner := []) (ok := fun k_ => SZ ≤ k_) (okp := fun _ => False) (by go_simp; done) (Reps.none _ _) (fun _ hk => hk.elim) HSZ.out HB.out HB.out.size (by simp) ?_
      intro va w31 hr hb_ hg_ hat_
      replace HOU := Aside0.mk (Kd.R_grown HOU.out hg_ (fun _ _ hk => by cases hk))
      replace HSZ := Aside0.mk (Nat.le_trans HSZ.out hg_.size)
      replace HB := Aside0.mk hb_
      have Ha := Aside0.mk hr
      clear hr hb_ hg_ hat_
      refine hK.out _ _ ((HB.out.cell (World.block_lt_of_cell? w _ hx0)).trans hx0) (fun hHeld => ?_)
      clear hK K
      refine norm_ (a' := ?_) ?_ ?_
      rotate_left
      ·show Act.put _ (some 47) _ = _
       simp only [Act.put, List.setIfInBounds_toArray, List.set_cons_zero, List.set_cons_succ, i64_w, i32_w]
       rfl
      refine two_ (i := 4) (j := 9) (Ni := some 51) (Nj := some 56) #[true, true, true, true, true, true, true, true, true, false, false, true, true, true, false, false] #[true, true, true, true, false, true, true, true, true, true, false, true, true, true, false, false] rfl rfl rfl rfl (two_of HT_.out (by kernel_rfl)) (by decide) (by decide) (fun K hK => ?_) (fun K hK => ?_)
      ·have HSZ0 := HSZ
       have Ha2 := Aside0.mk (Kd.R_mono (ok' := fun k_ => SZ ≤ k_ ∨ w31.heap.size ≤ k_) Ha.out (fun k_ hk_ => .inl hk_))
       refine Kd.R_append_rows_step (Kd.int .i64) (w0 := w) w.heap.size (by rfl) (.tmp 47) (.tmp 50) 37 3 (.int .i64 0) 8 rfl Try.underlying37 info3 rfl (by decide) (by omega) _ _ _ _ _ _ _ (fun _ => False) rfl rfl Ha2.out ((R_ctake HOU.out hjl)) (fun _ _ h => h) (fun _ h => h.elim) (fun k_ hk_ => .inr hk_) HB.out HB.out.size (by simp only [List.length_nil]; omega) ?_
       intro vb w32 hr hb_ hg_ hat_
       rw [List.nil_append] at hr
       replace HOU := Aside0.mk (Kd.R_grown HOU.out hg_ (fun k_ hk_ e_ => Nat.not_lt.2 (Ha.out.1 k_ e_.symm) hk_))
       replace HSZ := Aside0.mk (Nat.le_trans HSZ.out hg_.size)
       replace HB := Aside0.mk hb_
       have Hb := Aside0.mk hr
       clear hr hb_ hg_ hat_
       replace Hb := Aside0.mk (Kd.R_mono (ok' := fun k_ => SZ ≤ k_) Hb.out (fun k_ hk_ => hk_.elim id (fun h_ => Nat.le_trans HSZ0.out h_)))
       clear Ha Ha2 HSZ0
       refine hK.out _ _ ((HB.out.cell (World.block_lt_of_cell? w _ hx0)).trans hx0) (fun hHeld => ?_)
       clear hK K
       refine norm_ (a' := ?_) ?_ ?_
       rotate_left
       ·show Act.put _ (some 51) _ = _
        simp only [Act.put, List.setIfInBounds_toArray, List.set_cons_zero, List.set_cons_succ, i64_w, i32_w]
        rfl
       refine one_ (i := 9) (N := some 56) #[true, true, true, true, true, true, true, true, true, true, false, true, true, true, false, false] rfl rfl (one_of HT_.out (by kernel_rfl)) (by decide) (fun K hK => ?_)
       refine Kd.R_lit_step (Kd.int .i64) (w0 := w) w.heap.size 3 (by rfl) (N := 56) rfl (xs := ([x] : List Int)) (inner := [.int .i64 x]) (ok := fun _ => True) (okp := fun _ => False) (by go_simp; done) (Kd.reps_scalar [x]) (fun _ hk => hk.elim) trivial HB.out HB.out.size (by simp) ?_
       intro vc w33 hr hb_ hg_ hat_
       replace HOU := Aside0.mk (Kd.R_grown HOU.out hg_ (fun _ _ hk => by cases hk))
       replace Hb := Aside0.mk (Kd.R_grown Hb.out hg_ (fun _ _ hk => by cases hk))
       replace HSZ := Aside0.mk (Nat.le_trans HSZ.out hg_.size)
       replace HB := Aside0.mk hb_
       have Hc := Aside0.mk hr
       clear hr hb_ hg_ hat_
       refine hK.out _ _ ((HB.out.cell (World.block_lt_of_cell? w _ hx0)).trans hx0) (fun hHeld => ?_)
       clear hK K
       refine norm_ (a' := ?_) ?_ ?_
       rotate_left
       ·show Act.put _ (some 56) _ = _
        simp only [Act.put, List.setIfInBounds_toArray, List.set_cons_zero, List.set_cons_succ, i64_w, i32_w]
        rfl
       obtain ⟨Ac_, cc_, ec_⟩ := Kd.R_slice Hc.out
       subst ec_
       replace Hb := Aside0.mk (Kd.R_mono (ok' := fun k_ => SZ ≤ k_ ∨ w33.heap.size ≤ k_) Hb.out (fun k_ hk_ => .inl hk_))
       refine one_ (i := 10) (N := some 57) #[true, true, true, true, true, true, true, true, true, true, true, true, true, true, false, false] rfl rfl (one_of HT_.out (by kernel_rfl)) (by decide) (fun K hK => ?_)
       refine Kd.R_append_rows_step (Kd.int .i64) (w0 := w) w.heap.size (by rfl) (.tmp 51) (.tmp 56) 37 3 (.int .i64 0) 8 rfl Try.underlying37 info3 rfl (by decide) (by omega) _ _ _ _ _ _ _ (fun _ => False) rfl rfl Hb.out ((Kd.R_reads' Hc.out).2.2) (fun _ _ h => h) (fun _ h => h.elim) (fun k_ hk_ => .inr hk_) HB.out HB.out.size (by simp only [List.length_take, List.length_cons, List.length_nil]; omega) ?_
       intro vd w37 hr hb_ hg_ hat_
       replace HOU := Aside0.mk (Kd.R_grown HOU.out hg_ (fun k_ hk_ e_ => (Hb.out.1 k_ e_.symm).elim (fun h_ => Nat.not_lt.2 h_ hk_) (fun h_ => Nat.not_lt.2 (Nat.le_trans HSZ.out h_) hk_)))
       replace HSZ := Aside0.mk (Nat.le_trans HSZ.out hg_.size)
       replace HB := Aside0.mk hb_
       have Hd := Aside0.mk hr
       clear hr hb_ hg_ hat_
       clear Hb Hc
       refine hK.out _ _ ((HB.out.cell (World.block_lt_of_cell? w _ hx0)).trans hx0) (fun hHeld => ?_)
       clear hK K
       refine norm_ (a' := ?_) ?_ ?_
       rotate_left
       ·show Act.put _ (some 57) _ = _
        simp only [Act.put, List.setIfInBounds_toArray, List.set_cons_zero, List.set_cons_succ, i64_w, i32_w]
        rfl
       replace Hd := Aside0.mk (Kd.R_mono (ok' := fun k_ => True) Hd.out (fun k_ hk_ => trivial))
       refine one_ (i := 14) (N := some 61) #[true, true, true, true, true, true, true, true, true, true, true, true, true, true, true, false] rfl rfl (one_of HT_.out (by kernel_rfl)) (by decide) (fun K hK => ?_)
       refine Kd.R_append_rows_step (Kd.int .i64) (w0 := w) w.heap.size (by rfl) (.tmp 57) (.tmp 60) 37 3 (.int .i64 0) 8 rfl Try.underlying37 info3 rfl (by decide) (by omega) _ _ _ _ _ _ _ (fun _ => False) rfl rfl Hd.out ((R_cdrop HOU.out hjl (R_cap HOU.out))) (fun _ _ h => h) (fun _ h => h.elim) (fun k_ hk_ => trivial) HB.out HB.out.size (by simp only [List.length_append, List.length_take, List.length_cons, List.length_nil]; omega) ?_
       intro ve w38 hr hb_ hg_ hat_
       replace HSZ := Aside0.mk (Nat.le_trans HSZ.out hg_.size)
       replace HB := Aside0.mk hb_
       have He := Aside0.mk hr
       clear hr hb_ hg_ hat_
       clear Hd HOU HSZ SZ
       refine hK.out _ _ ((HB.out.cell (World.block_lt_of_cell? w _ hx0)).trans hx0) (fun hHeld => ?_)
       clear hK K
       refine norm_ (a' := ?_) ?_ ?_
       rotate_left
       ·show Act.put _ (some 61) _ = _
        simp only [Act.put, List.setIfInBounds_toArray, List.set_cons_zero, List.set_cons_succ, i64_w, i32_w]
        rfl
       refine pure_ (i := 15) (N := some 4) (v := ?_) (a' := ?_) #[true, true, true, true, true, true, true, true, true, true, true, true, true, true, true, true] rfl rfl (any_of HT_.out (by kernel_rfl)) (fun _ _ _ h => h) (Or.inl ⟨by rfl, ?_⟩) ?_ ?_
       rotate_left
       ·intro w'
        go_simp
        with_reducible rfl
       rotate_left
       ·simp only [Act.put, List.setIfInBounds_toArray, List.set_cons_zero, List.set_cons_succ, i64_w, i32_w]
        rfl
       refine done_ (done_of HT_.out (by kernel_rfl)) ?_
       clear hHeld HT_ HW_
       have hl9 : (insR x ys).length ≤ kk + 1 := Nat.le_trans (insR_len x ys) (by omega)
       have hHe := He.out
       rw [← HI.out] at hHe
       obtain ⟨A9, c9, e9⟩ := Kd.R_slice hHe
       subst e9
       obtain ⟨a9, h9, -⟩ := Kd.at_int (Kd.R_reads' hHe).2.2 0 (Int.le_refl _) (by rw [HI.out]; simp only [List.length_append, List.length_cons, List.length_nil]; omega)
       subst h9
       have HO := Aside0.mk hHe
       have HY9 : Aside0 (∀ y_ ∈ insR x ys, inR y_) := ⟨insR_in HXI.out HYI.out⟩
       clear hHe He HI
       generalize (if c = jj then some ad else some (ad.add jj)) = A60_
       go_wp2
       go_roundg (l0.length - (kk + 1))
       case measure => omega
       case rel => exact ⟨kk + 1, a9, c9, insR x ys, by go_num, by omega, by omega, rfl, hl9, HY9, HRES, HO, HB⟩
      ·replace Ha := Aside0.mk (Kd.R_bound Ha.out)
       obtain ⟨L, hL⟩ : ∃ s, w31.heap.size = s := ⟨_, rfl⟩
       have HL0 := Aside0.mk hL
       refine Kd.R_lit_step (Kd.int .i64) (w0 := w) w.heap.size 3 (by rfl) (N := 56) rfl (xs := ([x] : List Int)) (inner := [.int .i64 x]) (ok := fun k_ => w31.heap.size ≤ k_) (okp := fun _ => False) (by go_simp; done) (Kd.reps_scalar [x]) (fun _ hk => hk.elim) (Nat.le_refl _) HB.out HB.out.size (by simp) ?_
       intro vc w32 hr hb_ hg_ hat_
       replace HOU := Aside0.mk (Kd.R_grown HOU.out hg_ (fun _ _ hk => by cases hk))
       replace Ha := Aside0.mk (Kd.R_grown Ha.out hg_ (fun _ _ hk => by cases hk))
       replace HSZ := Aside0.mk (Nat.le_trans HSZ.out hg_.size)
       replace HB := Aside0.mk hb_
       have Hc := Aside0.mk hr
       clear hr hb_ hg_ hat_
       clear HL0 hL L
       refine hK.out _ _ ((HB.out.cell (World.block_lt_of_cell? w _ hx0)).trans hx0) (fun hHeld => ?_)
       clear hK K
       refine norm_ (a' := ?_) ?_ ?_
       rotate_left
       ·show Act.put _ (some 56) _ = _
        simp only [Act.put, List.setIfInBounds_toArray, List.set_cons_zero, List.set_cons_succ, i64_w, i32_w]
        rfl
       have HSZ0 := HSZ
       have Ha2 := Aside0.mk (Kd.R_mono (ok' := fun k_ => SZ ≤ k_ ∨ w32.heap.size ≤ k_) Ha.out (fun k_ hk_ => .inl hk_.1))
       refine one_ (i := 4) (N := some 51) #[true, true, true, true, true, true, true, true, true, true, false, true, true, true, false, false] rfl rfl (one_of HT_.out (by kernel_rfl)) (by decide) (fun K hK => ?_)
       refine Kd.R_append_rows_step (Kd.int .i64) (w0 := w) w.heap.size (by rfl) (.tmp 47) (.tmp 50) 37 3 (.int .i64 0) 8 rfl Try.underlying37 info3 rfl (by decide) (by omega) _ _ _ _ _ _ _ (fun _ => False) rfl rfl Ha2.out ((R_ctake HOU.out hjl)) (fun _ _ h => h) (fun _ h => h.elim) (fun k_ hk_ => .inr hk_) HB.out HB.out.size (by simp only [List.length_nil]; omega) ?_
       intro vb w33 hr hb_ hg_ hat_
       rw [List.nil_append] at hr
       replace HOU := Aside0.mk (Kd.R_grown HOU.out hg_ (fun k_ hk_ e_ => Nat.not_lt.2 (Ha.out.1 k_ e_.symm).1 hk_))
       replace Hc := Aside0.mk (Kd.R_grown Hc.out hg_ (fun k_ hk_ e_ => Nat.not_lt.2 hk_ (Ha.out.1 k_ e_.symm).2.2.1))
       replace HSZ := Aside0.mk (Nat.le_trans HSZ.out hg_.size)
       replace HB := Aside0.mk hb_
       have Hb := Aside0.mk hr
       clear hr hb_ hg_ hat_
       replace Hb := Aside0.mk (Kd.R_mono (ok' := fun k_ => SZ ≤ k_) Hb.out (fun k_ hk_ => hk_.elim id (fun h_ => Nat.le_trans HSZ0.out h_)))
       clear Ha Ha2 HSZ0
       refine hK.out _ _ ((HB.out.cell (World.block_lt_of_cell? w _ hx0)).trans hx0) (fun hHeld => ?_)
       clear hK K
       refine norm_ (a' := ?_) ?_ ?_
       rotate_left
       ·show Act.put _ (some 51) _ = _
        simp only [Act.put, List.setIfInBounds_toArray, List.set_cons_zero, List.set_cons_succ, i64_w, i32_w]
        rfl
       obtain ⟨Ac_, cc_, ec_⟩ := Kd.R_slice Hc.out
       subst ec_
       replace Hb := Aside0.mk (Kd.R_mono (ok' := fun k_ => SZ ≤ k_ ∨ w33.heap.size ≤ k_) Hb.out (fun k_ hk_ => .inl hk_))
       refine one_ (i := 10) (N := some 57) #[true, true, true, true, true, true, true, true, true, true, true, true, true, true, false, false] rfl rfl (one_of HT_.out (by kernel_rfl)) (by decide) (fun K hK => ?_)
       refine Kd.R_append_rows_step (Kd.int .i64) (w0 := w) w.heap.size (by rfl) (.tmp 51) (.tmp 56) 37 3 (.int .i64 0) 8 rfl Try.underlying37 info3 rfl (by decide) (by omega) _ _ _ _ _ _ _ (fun _ => False) rfl rfl Hb.out ((Kd.R_reads' Hc.out).2.2) (fun _ _ h => h) (fun _ h => h.elim) (fun k_ hk_ => .inr hk_) HB.out HB.out.size (by simp only [List.length_take, List.length_cons, List.length_nil]; omega) ?_
       intro vd w37 hr hb_ hg_ hat_
       replace HOU := Aside0.mk (Kd.R_grown HOU.out hg_ (fun k_ hk_ e_ => (Hb.out.1 k_ e_.symm).elim (fun h_ => Nat.not_lt.2 h_ hk_) (fun h_ => Nat.not_lt.2 (Nat.le_trans HSZ.out h_) hk_)))
       replace HSZ := Aside0.mk (Nat.le_trans HSZ.out hg_.size)
       replace HB := Aside0.mk hb_
       have Hd := Aside0.mk hr
       clear hr hb_ hg_ hat_
       clear Hb Hc
       refine hK.out _ _ ((HB.out.cell (World.block_lt_of_cell? w _ hx0)).trans hx0) (fun hHeld => ?_)
       clear hK K
       refine norm_ (a' := ?_) ?_ ?_
       rotate_left
       ·show Act.put _ (some 57) _ = _
        simp only [Act.put, List.setIfInBounds_toArray, List.set_cons_zero, List.set_cons_succ, i64_w, i32_w]
        rfl
       replace Hd := Aside0.mk (Kd.R_mono (ok' := fun k_ => True) Hd.out (fun k_ hk_ => trivial))
       refine one_ (i := 14) (N := some 61) #[true, true, true, true, true, true, true, true, true, true, true, true, true, true, true, false] rfl rfl (one_of HT_.out (by kernel_rfl)) (by decide) (fun K hK => ?_)
       refine Kd.R_append_rows_step (Kd.int .i64) (w0 := w) w.heap.size (by rfl) (.tmp 57) (.tmp 60) 37 3 (.int .i64 0) 8 rfl Try.underlying37 info3 rfl (by decide) (by omega) _ _ _ _ _ _ _ (fun _ => False) rfl rfl Hd.out ((R_cdrop HOU.out hjl (R_cap HOU.out))) (fun _ _ h => h) (fun _ h => h.elim) (fun k_ hk_ => trivial) HB.out HB.out.size (by simp only [List.length_append, List.length_take, List.length_cons, List.length_nil]; omega) ?_
       intro ve w38 hr hb_ hg_ hat_
       replace HSZ := Aside0.mk (Nat.le_trans HSZ.out hg_.size)
       replace HB := Aside0.mk hb_
       have He := Aside0.mk hr
       clear hr hb_ hg_ hat_
       clear Hd HOU HSZ SZ
       refine hK.out _ _ ((HB.out.cell (World.block_lt_of_cell? w _ hx0)).trans hx0) (fun hHeld => ?_)
       clear hK K
       refine norm_ (a' := ?_) ?_ ?_
       rotate_left
       ·show Act.put _ (some 61) _ = _
        simp only [Act.put, List.setIfInBounds_toArray, List.set_cons_zero, List.set_cons_succ, i64_w, i32_w]
        rfl
       refine pure_ (i := 15) (N := some 4) (v := ?_) (a' := ?_) #[true, true, true, true, true, true, true, true, true, true, true, true, true, true, true, true] rfl rfl (any_of HT_.out (by kernel_rfl)) (fun _ _ _ h => h) (Or.inl ⟨by rfl, ?_⟩) ?_ ?_
       rotate_left
       ·intro w'
        go_simp
        with_reducible rfl
       rotate_left
       ·simp only [Act.put, List.setIfInBounds_toArray, List.set_cons_zero, List.set_cons_succ, i64_w, i32_w]
        rfl
       refine done_ (done_of HT_.out (by kernel_rfl)) ?_
       clear hHeld HT_ HW_
       have hl9 : (insR x ys).length ≤ kk + 1 := Nat.le_trans (insR_len x ys) (by omega)
       have hHe := He.out
       rw [← HI.out] at hHe
       obtain ⟨A9, c9, e9⟩ := Kd.R_slice hHe
       subst e9
       obtain ⟨a9, h9, -⟩ := Kd.at_int (Kd.R_reads' hHe).2.2 0 (Int.le_refl _) (by rw [HI.out]; simp only [List.length_append, List.length_cons, List.length_nil]; omega)
       subst h9
       have HO := Aside0.mk hHe
       have HY9 : Aside0 (∀ y_ ∈ insR x ys, inR y_) := ⟨insR_in HXI.out HYI.out⟩
       clear hHe He HI
       generalize (if c = jj then some ad else some (ad.add jj)) = A60_
       go_wp2
       go_roundg (l0.length - (kk + 1))
       case measure => omega
       case rel => exact ⟨kk + 1, a9, c9, insR x ys, by go_num, by omega, by omega, rfl, hl9, HY9, HRES, HO, HB⟩
     ·refine Kd.R_lit_step (Kd.int .i64) (w0 := w) w.heap.size 3 (by rfl) (N := 56) rfl (xs := ([x] : List Int)) (inner := [.int .i64 x]) (ok := fun _ => True) (okp := fun _ => False) (by go_simp; done) (Kd.reps_scalar [x]) (fun _ hk => hk.elim) trivial HB.out HB.out.size (by simp) ?_
      intro vc w31 hr hb_ hg_ hat_
      replace HOU := Aside0.mk (Kd.R_grown HOU.out hg_ (fun _ _ hk => by cases hk))
      replace HSZ := Aside0.mk (Nat.le_trans HSZ.out hg_.size)
      replace HB := Aside0.mk hb_
      have Hc := Aside0.mk hr
      clear hr hb_ hg_ hat_
      refine hK.out _ _ ((HB.out.cell (World.block_lt_of_cell? w _ hx0)).trans hx0) (fun hHeld => ?_)
      clear hK K
      refine norm_ (a' := ?_) ?_ ?_
      rotate_left
      ·show Act.put _ (some 56) _ = _
       simp only [Act.put, List.setIfInBounds_toArray, List.set_cons_zero, List.set_cons_succ, i64_w, i32_w]
       rfl
      replace Hc := Aside0.mk (Kd.R_bound Hc.out)
      refine one_ (i := 0) (N := some 47) #[true, true, true, true, false, true, true, true, true, true, false, true, true, true, false, false] rfl rfl (one_of HT_.out (by kernel_rfl)) (by decide) (fun K hK => ?_)
      refine Kd.R_lit_step (Kd.int .i64) (w0 := w) w.heap.size 3 (by rfl) (N := 47) rfl (xs := ([] : List Int)) (inner := []) (ok := fun k_ => w31.heap.size ≤ k_) (okp := fun _ => False) (by go_simp; done) (Reps.none _ _) (fun _ hk => hk.elim) (Nat.le_refl _) HB.out HB.out.size (by simp) ?_
      intro va w32 hr hb_ hg_ hat_
      replace HOU := Aside0.mk (Kd.R_grown HOU.out hg_ (fun _ _ hk => by cases hk))
      replace Hc := Aside0.mk (Kd.R_grown Hc.out hg_ (fun _ _ hk => by cases hk))
      have HSZ1 := HSZ
      replace HSZ := Aside0.mk (Nat.le_trans HSZ.out hg_.size)
      replace HB := Aside0.mk hb_
      have Ha := Aside0.mk hr
      clear hr hb_ hg_ hat_
      refine hK.out _ _ ((HB.out.cell (World.block_lt_of_cell? w _ hx0)).trans hx0) (fun hHeld => ?_)
      clear hK K
      refine norm_ (a' := ?_) ?_ ?_
      rotate_left
      ·show Act.put _ (some 47) _ = _
       simp only [Act.put, List.setIfInBounds_toArray, List.set_cons_zero, List.set_cons_succ, i64_w, i32_w]
       rfl
      have HSZ0 := HSZ
      have Ha2 := Aside0.mk (Kd.R_mono (ok' := fun k_ => SZ ≤ k_ ∨ w32.heap.size ≤ k_) Ha.out (fun k_ hk_ => .inl (Nat.le_trans HSZ1.out hk_)))
      refine one_ (i := 4) (N := some 51) #[true, true, true, true, true, true, true, true, true, true, false, true, true, true, false, false] rfl rfl (one_of HT_.out (by kernel_rfl)) (by decide) (fun K hK => ?_)
      refine Kd.R_append_rows_step (Kd.int .i64) (w0 := w) w.heap.size (by rfl) (.tmp 47) (.tmp 50) 37 3 (.int .i64 0) 8 rfl Try.underlying37 info3 rfl (by decide) (by omega) _ _ _ _ _ _ _ (fun _ => False) rfl rfl Ha2.out ((R_ctake HOU.out hjl)) (fun _ _ h => h) (fun _ h => h.elim) (fun k_ hk_ => .inr hk_) HB.out HB.out.size (by simp only [List.length_nil]; omega) ?_
      intro vb w33 hr hb_ hg_ hat_
      rw [List.nil_append] at hr
      replace HOU := Aside0.mk (Kd.R_grown HOU.out hg_ (fun k_ hk_ e_ => Nat.not_lt.2 (Nat.le_trans HSZ1.out (Ha.out.1 k_ e_.symm)) hk_))
      replace Hc := Aside0.mk (Kd.R_grown Hc.out hg_ (fun k_ hk_ e_ => Nat.not_lt.2 (Ha.out.1 k_ e_.symm) hk_.2.2.1))
      replace HSZ := Aside0.mk (Nat.le_trans HSZ.out hg_.size)
      replace HB := Aside0.mk hb_
      have Hb := Aside0.mk hr
      clear hr hb_ hg_ hat_
      replace Hb := Aside0.mk (Kd.R_mono (ok' := fun k_ => SZ ≤ k_) Hb.out (fun k_ hk_ => hk_.elim id (fun h_ => Nat.le_trans HSZ0.out h_)))
      clear Ha Ha2 HSZ0 HSZ1
      refine hK.out _ _ ((HB.out.cell (World.block_lt_of_cell? w _ hx0)).trans hx0) (fun hHeld => ?_)
      clear hK K
      refine norm_ (a' := ?_) ?_ ?_
      rotate_left
      ·show Act.put _ (some 51) _ = _
       simp only [Act.put, List.setIfInBounds_toArray, List.set_cons_zero, List.set_cons_succ, i64_w, i32_w]
       rfl
      obtain ⟨Ac_, cc_, ec_⟩ := Kd.R_slice Hc.out
      subst ec_
      replace Hb := Aside0.mk (Kd.R_mono (ok' := fun k_ => SZ ≤ k_ ∨ w33.heap.size ≤ k_) Hb.out (fun k_ hk_ => .inl hk_))
      refine one_ (i := 10) (N := some 57) #[true, true, true, true, true, true, true, true, true, true, true, true, true, true, false, false] rfl rfl (one_of HT_.out (by kernel_rfl)) (by decide) (fun K hK => ?_)
      refine Kd.R_append_rows_step (Kd.int .i64) (w0 := w) w.heap.size (by rfl) (.tmp 51) (.tmp 56) 37 3 (.int .i64 0) 8 rfl Try.underlying37 info3 rfl (by decide) (by omega) _ _ _ _ _ _ _ (fun _ => False) rfl rfl Hb.out ((Kd.R_reads' Hc.out).2.2) (fun _ _ h => h) (fun _ h => h.elim) (fun k_ hk_ => .inr hk_) HB.out HB.out.size (by simp only [List.length_take, List.length_cons, List.length_nil]; omega) ?_
      intro vd w37 hr hb_ hg_ hat_
      replace HOU := Aside0.mk (Kd.R_grown HOU.out hg_ (fun k_ hk_ e_ => (Hb.out.1 k_ e_.symm).elim (fun h_ => Nat.not_lt.2 h_ hk_) (fun h_ => Nat.not_lt.2 (Nat.le_trans HSZ.out h_) hk_)))
      replace HSZ := Aside0.mk (Nat.le_trans HSZ.out hg_.size)
      replace HB := Aside0.mk hb_
      have Hd := Aside0.mk hr
      clear hr hb_ hg_ hat_
      clear Hb Hc
      refine hK.out _ _ ((HB.out.cell (World.block_lt_of_cell? w _ hx0)).trans hx0) (fun hHeld => ?_)
      clear hK K
      refine norm_ (a' := ?_) ?_ ?_
      rotate_left
      ·show Act.put _ (some 57) _ = _
       simp only [Act.put, List.setIfInBounds_toArray, List.set_cons_zero, List.set_cons_succ, i64_w, i32_w]
       rfl
      replace Hd := Aside0.mk (Kd.R_mono (ok' := fun k_ => True) Hd.out (fun k_ hk_ => trivial))
      refine one_ (i := 14) (N := some 61) #[true, true, true, true, true, true, true, true, true, true, true, true, true, true, true, false] rfl rfl (one_of HT_.out (by kernel_rfl)) (by decide) (fun K hK => ?_)
      refine Kd.R_append_rows_step (Kd.int .i64) (w0 := w) w.heap.size (by rfl) (.tmp 57) (.tmp 60) 37 3 (.int .i64 0) 8 rfl Try.underlying37 info3 rfl (by decide) (by omega) _ _ _ _ _ _ _ (fun _ => False) rfl rfl Hd.out ((R_cdrop HOU.out hjl (R_cap HOU.out))) (fun _ _ h => h) (fun _ h => h.elim) (fun k_ hk_ => trivial) HB.out HB.out.size (by simp only [List.length_append, List.length_take, List.length_cons, List.length_nil]; omega) ?_
      intro ve w38 hr hb_ hg_ hat_
      replace HSZ := Aside0.mk (Nat.le_trans HSZ.out hg_.size)
      replace HB := Aside0.mk hb_
      have He := Aside0.mk hr
      clear hr hb_ hg_ hat_
      clear Hd HOU HSZ SZ
      refine hK.out _ _ ((HB.out.cell (World.block_lt_of_cell? w _ hx0)).trans hx0) (fun hHeld => ?_)
      clear hK K
      refine norm_ (a' := ?_) ?_ ?_
      rotate_left
      ·show Act.put _ (some 61) _ = _
       simp only [Act.put, List.setIfInBounds_toArray, List.set_cons_zero, List.set_cons_succ, i64_w, i32_w]
       rfl
      refine pure_ (i := 15) (N := some 4) (v := ?_) (a' := ?_) #[true, true, true, true, true, true, true, true, true, true, true, true, true, true, true, true] rfl rfl (any_of HT_.out (by kernel_rfl)) (fun _ _ _ h => h) (Or.inl ⟨by rfl, ?_⟩) ?_ ?_
      rotate_left
      ·intro w'
       go_simp
       with_reducible rfl
      rotate_left
      ·simp only [Act.put, List.setIfInBounds_toArray, List.set_cons_zero, List.set_cons_succ, i64_w, i32_w]
       rfl
      refine done_ (done_of HT_.out (by kernel_rfl)) ?_
      clear hHeld HT_ HW_
      have hl9 : (insR x ys).length ≤ kk + 1 := Nat.le_trans (insR_len x ys) (by omega)
      have hHe := He.out
      rw [← HI.out] at hHe
      obtain ⟨A9, c9, e9⟩ := Kd.R_slice hHe
      subst e9
      obtain ⟨a9, h9, -⟩ := Kd.at_int (Kd.R_reads' hHe).2.2 0 (Int.le_refl _) (by rw [HI.out]; simp only [List.length_append, List.length_cons, List.length_nil]; omega)
      subst h9
      have HO := Aside0.mk hHe
      have HY9 : Aside0 (∀ y_ ∈ insR x ys, inR y_) := ⟨insR_in HXI.out HYI.out⟩
      clear hHe He HI
      generalize (if c = jj then some ad else some (ad.add jj)) = A60_
      go_wp2
      go_roundg (l0.length - (kk + 1))
      case measure => omega
      case rel => exact ⟨kk + 1, a9, c9, insR x ys, by go_num, by omega, by omega, rfl, hl9, HY9, HRES, HO, HB⟩
  ·obtain rfl : kk = l0.length := by omega
   have hltz : ¬ (l0.length : Int) < (l0.length : Int) := by omega
   have hres := HRES.out
   rw [List.drop_length, insAll] at hres
   subst hres
   clear HRES HA HIN
   have HO0 : Aside0 (oppB (ys.drop (1 - 1)) = oppB ys) := ⟨rfl⟩
   go_wp2
   go_loopg [7] ys.length (fun gg2 v7 wr2 => ∃ ii : Nat, v7 = .int .i64 ii ∧ 1 ≤ ii ∧ ii ≤ ys.length + 1 ∧ ys.length - ii ≤ gg2 ∧ Aside0 (oppB (ys.drop (ii - 1)) = oppB ys) ∧ Aside0 (Kd.R (Kd.int .i64) 3 wr2 w.heap.size (fun _ => True) (.slice (some ad) ys.length c) ys) ∧ Aside0 (Below w.heap.size w wr2))
   case atStart => exact ⟨1, rfl, Nat.le_refl _, by omega, by omega, HO0, HO, HB⟩
   case round =>
    clear HO0 HO HB
    obtain ⟨ii, rfl, hi1, hi2, hg2, HP, HO, HB⟩ := hrel
    obtain ⟨pv, hpv⟩ : ∃ pv, ii = pv + 1 := ⟨ii - 1, by omega⟩
    have hP := HP.out
    rw [show ii - 1 = pv by omega] at hP
    by_cases hil : ii < ys.length
    ·have hiz : (ii : Int) < (ys.length : Int) := by omega
     have hi0 : (0 : Int) ≤ (ii : Int) := Int.natCast_nonneg _
     have hp0 : (0 : Int) ≤ (pv : Int) := Int.natCast_nonneg _
     have hpz : (pv : Int) < (ys.length : Int) := by omega
     have hpl : pv < ys.length := by omega
     have ews : IntKind.i64.wrap ((ii : Int) - 1) = (pv : Int) := by rw [show (ii : Int) - 1 = (pv : Int) by omega]; exact IntWalk.i64_in _ ⟨by omega, by omega⟩
     have ewi : IntKind.i64.wrap ((ii : Int) + 1) = ((ii + 1 : Nat) : Int) := IntWalk.i64_in _ ⟨by omega, by omega⟩
     have hCy := (Kd.R_reads' HO.out).2.2
     obtain ⟨ad_, ea_, hy⟩ := Kd.at_int hCy (pv : Int) hp0 hpz
     obtain rfl := Option.some.inj ea_
     obtain ⟨ad_, eb_, hz⟩ := Kd.at_int hCy (ii : Int) hi0 hiz
     obtain rfl := Option.some.inj eb_
     clear ea_ eb_ hCy
     rw [Int.toNat_natCast] at hy hz
     have hrdy : rd ys (pv : Int) = ys[pv] := by unfold rd; simp [List.getD, hpl]
     have hrdz : rd ys (ii : Int) = ys[ii] := by unfold rd; simp [List.getD, hil]
     have hop := oppB_step (l := ys) (j := pv) (by omega)
     simp only [← hpv] at hop
     rw [hP, ← hrdy, ← hrdz] at hop
     have hzi : inR ys[ii] := HYI.out _ (List.getElem_mem hil)
     rw [← hrdz] at hzi
     clear hrdy hrdz hP HP
     generalize rd ys (pv : Int) = y at hy hop
     generalize rd ys (ii : Int) = z at hz hop hzi
     have ewn : IntKind.i64.wrap (-z) = -z := IntWalk.i64_in _ ⟨by unfold inR at hzi; omega, by unfold inR at hzi; omega⟩
     have HOP := Aside0.mk hop
     clear hop hzi
     obtain ⟨b, hb13⟩ : ∃ b, (y == -z) = b := ⟨_, rfl⟩
     clear hpv
     go_upto_region 13 with fail
     have hbdc : ∀ p v, wr.cell? p = some v → wr.drew.cell? p = some v := fun p v h => h
     have hbd := below_drew (Below.refl wr.heap.size wr)
     replace HO := Aside0.mk (Kd.R_below HO.out hbd)
     replace HB := Aside0.mk (HB.out.trans (hbd.mono HB.out.size))
     clear hbd
     replace hy := hbdc _ _ hy
     replace hz := hbdc _ _ hz
     clear hbdc
     generalize hw9 : wr.drew = w40 at *
     refine start_ (n := 11) (S := fun w' => w'.cell? (ad.add pv) = some (.int .i64 y) ∧ w'.cell? (ad.add ii) = some (.int .i64 z)) (ds := []) #[false, false, false, false, false, false, false, false, false, false, false] (by kernel_rfl) rfl rfl (by rw [hw9]; exact ⟨hy, hz⟩) (fun hHeld => ?_)
     refine with_tabW so13_tab so13_bits (fun HT_ HW_ => ?_)
     rw [hw9] at hHeld ⊢
     clear hw9
     refine pure_ (i := 0) (N := some 68) (v := ?_) (a' := ?_) #[true, false, false, false, false, false, false, false, false, false, false] rfl rfl (any_of HT_.out (by kernel_rfl)) (fun _ _ _ h => h) (Or.inl ⟨by rfl, ?_⟩) ?_ ?_
     rotate_left
     ·intro w'
      go_simp
      with_reducible rfl
     rotate_left
     ·simp only [Act.put, List.setIfInBounds_toArray, List.set_cons_zero, List.set_cons_succ, i64_w, i32_w]
      rfl
     refine pure_ (i := 1) (N := some 69) (v := ?_) (a' := ?_) #[true, true, false, false, false, false, false, false, false, false, false] rfl rfl (any_of HT_.out (by kernel_rfl)) (fun _ _ _ h => h) (Or.inl ⟨by rfl, ?_⟩) ?_ ?_
     rotate_left
     ·intro w'
      go_simp
      with_reducible rfl
     rotate_left
     ·simp only [Act.put, List.setIfInBounds_toArray, List.set_cons_zero, List.set_cons_succ, i64_w, i32_w]
      rfl
     refine pure_ (i := 2) (N := some 70) (v := ?_) (a' := ?_) #[true, true, true, false, false, false, false, false, false, false, false] rfl rfl (any_of HT_.out (by kernel_rfl)) (fun _ _ _ h => h) (Or.inl ⟨by rfl, ?_⟩) ?_ ?_
     rotate_left
     ·intro w'
      go_simp
      with_reducible rfl
     rotate_left
     ·simp only [Act.put, List.setIfInBounds_toArray, List.set_cons_zero, List.set_cons_succ, i64_w, i32_w]
      rfl
     refine pure_ (i := 3) (N := some 71) (v := ?_) (a' := ?_) #[true, true, true, true, false, false, false, false, false, false, false] rfl rfl (any_of HT_.out (by kernel_rfl)) (fun _ _ _ h => h) (Or.inl ⟨by rfl, ?_⟩) ?_ ?_
     rotate_left
     ·intro w'
      go_simp
      with_reducible rfl
     rotate_left
     ·simp only [Act.put, List.setIfInBounds_toArray, List.set_cons_zero, List.set_cons_succ, i64_w, i32_w]
      rfl
     refine pure_ (i := 5) (N := some 73) (v := ?_) (a' := ?_) #[true, true, true, true, false, true, false, false, false, false, false] rfl rfl (any_of HT_.out (by kernel_rfl)) (fun _ _ _ h => h) (Or.inl ⟨by rfl, ?_⟩) ?_ ?_
     rotate_left
     ·intro w'
      go_simp
      with_reducible rfl
     rotate_left
     ·simp only [Act.put, List.setIfInBounds_toArray, List.set_cons_zero, List.set_cons_succ, i64_w, i32_w]
      rfl
     refine pure_ (i := 6) (N := some 74) (v := ?_) (a' := ?_) #[true, true, true, true, false, true, true, false, false, false, false] rfl rfl (any_of HT_.out (by kernel_rfl)) (fun _ _ _ h => h) (Or.inl ⟨by rfl, ?_⟩) ?_ ?_
     rotate_left
     ·intro w'
      go_simp
      with_reducible rfl
     rotate_left
     ·simp only [Act.put, List.setIfInBounds_toArray, List.set_cons_zero, List.set_cons_succ, i64_w, i32_w]
      rfl
     refine pure_ (i := 7) (N := some 75) (v := ?_) (a' := ?_) #[true, true, true, true, false, true, true, true, false, false, false] rfl rfl (any_of HT_.out (by kernel_rfl)) (fun _ _ _ h => h) (Or.inl ⟨by rfl, ?_⟩) ?_ ?_
     rotate_left
     ·intro w'
      go_simp
      with_reducible rfl
     rotate_left
     ·simp only [Act.put, List.setIfInBounds_toArray, List.set_cons_zero, List.set_cons_succ, i64_w, i32_w]
      rfl
     refine take_ (i := 4) (N := some 72) (v := ?_) (a' := ?_) #[true, true, true, true, true, true, true, true, false, false, false] rfl rfl (take_ofW HT_.out HW_.out (by kernel_rfl)) (fun _ _ _ h => h) (Or.inl ⟨by rfl, ?_⟩) hHeld ?_ ?_
     rotate_left
     ·rintro w' ⟨s0, s1⟩
      go_simp
      with_reducible rfl
     rotate_left
     ·simp only [Act.put, List.setIfInBounds_toArray, List.set_cons_zero, List.set_cons_succ, i64_w, i32_w]
      rfl
     refine take_ (i := 8) (N := some 76) (v := ?_) (a' := ?_) #[true, true, true, true, true, true, true, true, true, false, false] rfl rfl (take_ofW HT_.out HW_.out (by kernel_rfl)) (fun _ _ _ h => h) (Or.inl ⟨by rfl, ?_⟩) hHeld ?_ ?_
     rotate_left
     ·rintro w' ⟨s0, s1⟩
      go_simp
      with_reducible rfl
     rotate_left
     ·simp only [Act.put, List.setIfInBounds_toArray, List.set_cons_zero, List.set_cons_succ, i64_w, i32_w]
      rfl
     refine pure_ (i := 9) (N := some 77) (v := ?_) (a' := ?_) #[true, true, true, true, true, true, true, true, true, true, false] rfl rfl (any_of HT_.out (by kernel_rfl)) (fun _ _ _ h => h) (Or.inl ⟨by rfl, ?_⟩) ?_ ?_
     rotate_left
     ·intro w'
      go_simp
      with_reducible rfl
     rotate_left
     ·simp only [Act.put, List.setIfInBounds_toArray, List.set_cons_zero, List.set_cons_succ, i64_w, i32_w]
      rfl
     refine pure_ (i := 10) (N := some 78) (v := ?_) (a' := ?_) #[true, true, true, true, true, true, true, true, true, true, true] rfl rfl (any_of HT_.out (by kernel_rfl)) (fun _ _ _ h => h) (Or.inl ⟨by rfl, ?_⟩) ?_ ?_
     rotate_left
     ·intro w'
      go_simp
      with_reducible rfl
     rotate_left
     ·simp only [Act.put, List.setIfInBounds_toArray, List.set_cons_zero, List.set_cons_succ, i64_w, i32_w]
      rfl
     refine done_ (done_of HT_.out (by kernel_rfl)) ?_
     clear hHeld HT_ HW_
     have hop := HOP.out
     rw [hb13] at hop
     cases b with
     | true =>
      rw [Bool.true_or] at hop
      have h2 := H2.out
      rw [hop] at h2
      subst h2
      clear HOP hop
      go_wp2
      go_ret2
      exact ⟨_, rfl, HO.out, HB.out⟩
     | false =>
      rw [Bool.false_or] at hop
      have HP : Aside0 (oppB (ys.drop (ii + 1 - 1)) = oppB ys) := ⟨by rw [Nat.add_sub_cancel]; exact hop.symm⟩
      clear HOP hop
      go_wp2
      go_roundg (ys.length - (ii + 1))
      case measure => omega
      case rel => exact ⟨ii + 1, by go_num, by omega, by omega, by omega, HP, HO, HB⟩
    ·have hiz : ¬ (ii : Int) < (ys.length : Int) := by omega
     rw [oppB_end (by omega)] at hP
     have h2 := H2.out
     rw [← hP] at h2
     subst h2
     clear hP HP
     go_wp2
     go_ret2
     exact ⟨_, rfl, HO.out, HB.out⟩
end Go.Proofs.Ytelfahcjeldliaa.PFnExactNormalCnf
end
section
namespace Go.Proofs.Ytelfahcjeldliaa.PFnExactNormalCnf
open Go.RowKit Go.Proofs.YtelfahcjeldliaaW.PrintWords Go.Proofs.YtelfahcjeldliaaW.PrintLast Go.Proofs.YtelfahcjeldliaaW.PrintMore
attribute [local go_sem] max2_int min2_int max_two min_two max_three min_three max_four min_four   -- for this text's walks alone
set_option linter.unusedVariables false
set_option linter.unusedSimpArgs false
mutual
def spec_l01Less.l0 : Nat → List Int → List Int → Int → Option (Bool)
 | 0, _, _, _ => none
 | k + 1, x0, x1, x5 => if x5 < (x0.length : Int) then (spec_l01Less.j1 k x0 x1 x5 (decide (x5 < (x1.length : Int)))) else (spec_l01Less.j1 k x0 x1 x5 false)
def spec_l01Less.j1 : Nat → List Int → List Int → Int → Bool → Option (Bool)
 | 0, _, _, _, _ => none
 | k + 1, x0, x1, x5, x15 => if x15 = true then (if 0 ≤ x5 then (if x5 < (x0.length : Int) then (if x5 < (x1.length : Int) then (if (rd x0 x5) = (rd x1 x5) then (spec_l01Less.l0 k x0 x1 (wrap64 (x5 + 1))) else ((spec_l01Before.f (rd x0 x5) (rd x1 x5)).bind fun t153 => (some t153))) else (none)) else (none)) else (none)) else (some (decide ((x0.length : Int) < (x1.length : Int))))
end
def spec_l01Less.f (k : Nat) (l0 : List Int) (l1 : List Int) : Option (Bool) := spec_l01Less.l0 k l0 l1 0
def spec_l01Less.T4 : Bool × List (List Nat × List Nat) := (true, [([], []), ([], []), ([0, 1], [0, 1]), ([2], [2]), ([], []), ([], []), ([4, 5], [4, 5]), ([6], [6]), ([3, 7], [3, 7])])
def spec_l01Less.B4 : List Nat := [0, 0, 3, 7, 0, 0, 48, 112, 255]
theorem spec_l01Less.tab4 : rtab .any (opsOf Try.f89 4) = spec_l01Less.T4 := by kernel_rfl
theorem spec_l01Less.bits4 : waitsOk spec_l01Less.T4.2 spec_l01Less.B4 = true := by kernel_rfl
def spec_l01Less.T5 : Bool × List (List Nat × List Nat) := (true, [([], []), ([], []), ([0, 1], [0, 1]), ([2], [2]), ([], []), ([], []), ([4, 5], [4, 5]), ([6], [6]), ([3, 7], [3, 7]), ([8, 8, 0, 1, 2, 3, 4, 5, 6, 7, 8], [8])])
def spec_l01Less.B5 : List Nat := [0, 0, 3, 7, 0, 0, 48, 112, 255, 511]
theorem spec_l01Less.tab5 : rtab .any (opsOf Try.f89 5) = spec_l01Less.T5 := by kernel_rfl
theorem spec_l01Less.bits5 : waitsOk spec_l01Less.T5.2 spec_l01Less.B5 = true := by kernel_rfl
set_option maxHeartbeats 8000000 in
set_option maxRecDepth 100000 in
theorem spec_l01Less.calls (k : Nat) (A0 : Option Addr) (c0 : Nat) (l0 : List Int) (A1 : Option Addr) (c1 : Nat) (l1 : List Int) (r : Bool) (w : World) (hr0 : Kd.C (Kd.int .i64) w A0 l0.length l0) (hc0 : l0.length ≤ c0) (hr1 : Kd.C (Kd.int .i64) w A1 l1.length l1) (hc1 : l1.length ≤ c1) (h : spec_l01Less.f k l0 l1 = some r) :
  Calls Try.prog 89 #[.slice A0 l0.length c0, .slice A1 l1.length c1] w fun e w' => e = .returned (.bool r) ∧ Below w.heap.size w w' := by
 have HR0 := Aside0.mk hr0
 have HC0 := Aside0.mk hc0
 clear hr0 hc0
 have HR1 := Aside0.mk hr1
 have HC1 := Aside0.mk hc1
 clear hr1 hc1
 have HB := Aside0.mk (Below.refl w.heap.size w)
 have H : (spec_l01Less.l0 k l0 l1 0) = some r := h
 clear h
 have H' := Aside0.mk H
 clear H
 go_enter Try.func89, Try.ntmps89
 go_wp2
 go_loopg [5] k (fun kq v5 w' => ∃ (x5_1 : Int), v5 = .int .i64 x5_1 ∧ Aside0 (spec_l01Less.l0 kq l0 l1 x5_1 = some r) ∧ Aside0 (kq ≤ k) ∧ Aside0 (Below w.heap.size w w'))
 case atStart => exact ⟨(0), (by first | rfl | (simp; done) | (simp [*]; done)), H', ⟨Nat.le_refl _⟩, ⟨by repeat (first | (with_reducible first | exact HB.out | apply below_alloc | apply pw_below_drewN | apply below_drew1) | exact HB.out)⟩⟩
 case round =>
  clear H'
  try clear c1
  try clear p2
  obtain ⟨x5_1, rfl, HA, HK1, HB⟩ := hrel
  cases gk with
  | zero => exact absurd HA.out (by simp [spec_l01Less.l0])
  | succ k1 =>
   have H := HA.out
   clear HA
   simp only [spec_l01Less.l0] at H
   have HC3 := Aside0.mk H
   clear H
   go_upto_region 2 with (fail)
   go_cut [15] (fun v15 wc => ∃ (kq : Nat) (x15_2 : Bool), v15 = .bool x15_2 ∧ Aside0 (spec_l01Less.j1 kq l0 l1 x5_1 x15_2 = some r) ∧ Aside0 (kq ≤ k1) ∧ Aside0 (Below w.heap.size w wc))
   case first =>
    have H := HC3.out
    clear HC3
    by_cases c4 : x5_1 < (l0.length : Int)
    ·rw [if_pos c4] at H
     have c4b0 : decide (x5_1 < (l0.length : Int)) = true := decide_eq_true c4
     clear c4
     (first | rw [c4b0] | (simp only [i64_w, i32_w]; rw [c4b0]) | skip)
     have H' := Aside0.mk H
     clear H
     go_wp2
     go_meet
     case rel => exact ⟨_, (decide (x5_1 < (l1.length : Int))), (by first | rfl | (simp; done) | (simp [*]; done)), H', ⟨by have := HK1.out; first | omega | exact Nat.le_refl _⟩, ⟨by repeat (first | (with_reducible first | exact HB.out | apply below_alloc | apply pw_below_drewN | apply below_drew1) | exact HB.out)⟩⟩
    ·rw [if_neg c4] at H
     have c4b0 : decide (x5_1 < (l0.length : Int)) = false := decide_eq_false c4
     clear c4
     (first | rw [c4b0] | (simp only [i64_w, i32_w]; rw [c4b0]) | skip)
     have H' := Aside0.mk H
     clear H
     go_wp2
     go_meet
     case rel => exact ⟨_, (false), (by first | rfl | (simp; done) | (simp [*]; done)), H', ⟨by have := HK1.out; first | omega | exact Nat.le_refl _⟩, ⟨by repeat (first | (with_reducible first | exact HB.out | apply below_alloc | apply pw_below_drewN | apply below_drew1) | exact HB.out)⟩⟩
   case rest =>
    clear HC3
    try clear c1
    try clear p2
    try clear c4
    try clear c4b0
    try clear p2
    obtain ⟨kq, x15_2, rfl, HA, HJ2, HB⟩ := hcut
    cases kq with
    | zero => exact absurd HA.out (by simp [spec_l01Less.j1])
    | succ kj2 =>
     have H := HA.out
     clear HA
     simp only [spec_l01Less.j1] at H
     by_cases c5 : x15_2 = true
     ·subst c5
      have H1 : (if 0 ≤ x5_1 then (if x5_1 < (l0.length : Int) then (if x5_1 < (l1.length : Int) then (if (rd l0 x5_1) = (rd l1 x5_1) then (spec_l01Less.l0 kj2 l0 l1 (wrap64 (x5_1 + 1))) else ((spec_l01Before.f (rd l0 x5_1) (rd l1 x5_1)).bind fun t153 => (some t153))) else (none)) else (none)) else (none)) = some r := by rw [if_pos rfl] at H; exact H
      clear H
      have H := H1
      clear H1
      by_cases c6 : 0 ≤ x5_1
      ·rw [if_pos c6] at H
       have c6b0 : decide (0 ≤ x5_1) = true := decide_eq_true c6
       clear c6
       by_cases c7 : x5_1 < (l0.length : Int)
       ·rw [if_pos c7] at H
        have c7b0 : decide (x5_1 < (l0.length : Int)) = true := decide_eq_true c7
        clear c7
        by_cases c8 : x5_1 < (l1.length : Int)
        ·rw [if_pos c8] at H
         have c8b0 : decide (x5_1 < (l1.length : Int)) = true := decide_eq_true c8
         clear c8
         by_cases c9 : (rd l0 x5_1) = (rd l1 x5_1)
         ·rw [if_pos c9] at H
          have c9b0 : ((rd l0 x5_1) == (rd l1 x5_1)) = true := beq_iff_eq.mpr c9
          have c9b1 : ((rd l0 x5_1) != (rd l1 x5_1)) = false := bne_eq_false_iff_eq.mpr c9
          clear c9
          have H' := Aside0.mk H
          clear H
          try go_wp2
          have n0_ := Aside0.mk (below_drew1 HB.out)
          clear HB
          have HB := n0_
          clear n0_
          have p149 : 0 ≤ (x5_1 : Int) := of_decide_eq_true (by first | (with_reducible assumption) | assumption)
          have q149 : x5_1 < (l0.length : Int) := of_decide_eq_true (by first | (with_reducible assumption) | assumption)
          obtain ⟨ad149, e149, hx149_0⟩ := Kd.at_int HR0.out x5_1 p149 q149
          have hw149_0 := hx149_0
          cases e149
          replace hx149_0 := (HB.out.cell (World.block_lt_of_cell? w _ hx149_0)).trans hx149_0
          replace p149 := eq_true p149
          replace q149 := eq_true q149
          have p150 : 0 ≤ (x5_1 : Int) := of_decide_eq_true (by first | (with_reducible assumption) | assumption)
          have q150 : x5_1 < (l1.length : Int) := of_decide_eq_true (by first | (with_reducible assumption) | assumption)
          obtain ⟨ad150, e150, hx150_0⟩ := Kd.at_int HR1.out x5_1 p150 q150
          have hw150_0 := hx150_0
          cases e150
          replace hx150_0 := (HB.out.cell (World.block_lt_of_cell? w _ hx150_0)).trans hx150_0
          replace p150 := eq_true p150
          replace q150 := eq_true q150
          refine start_ (n := 9) (S := fun w' => w'.cell? (ad149.add (x5_1).toNat) = some (.int .i64 (rd l0 x5_1)) ∧ w'.cell? (ad150.add (x5_1).toNat) = some (.int .i64 (rd l1 x5_1))) (ds := []) #[false, false, false, false, false, false, false, false, false] (by kernel_rfl) rfl rfl ⟨((HB.out.cell (World.block_lt_of_cell? w _ hw149_0)).trans hw149_0), ((HB.out.cell (World.block_lt_of_cell? w _ hw150_0)).trans hw150_0)⟩ (fun hHeld => ?_); refine with_tabW spec_l01Less.tab4 spec_l01Less.bits4 (fun HT_ HW_ => ?_)
          generalize wc.drew = w10 at HB hx149_0 hx150_0 hHeld ⊢
          refine pure_ (i := 0) (N := some 18) (v := ?_) (a' := ?_) #[true, false, false, false, false, false, false, false, false] rfl rfl (any_of HT_.out (by kernel_rfl)) (fun _ _ _ h => h) (Or.inl ⟨by rfl, ?_⟩) ?_ ?_
          rotate_left
          ·intro w'
           go_simp
           with_reducible rfl
          rotate_left
          ·simp only [Act.put, List.setIfInBounds_toArray, List.set_cons_zero, List.set_cons_succ, i64_w, i32_w]
           rfl
          refine pure_ (i := 1) (N := some 19) (v := ?_) (a' := ?_) #[true, true, false, false, false, false, false, false, false] rfl rfl (any_of HT_.out (by kernel_rfl)) (fun _ _ _ h => h) (Or.inl ⟨by rfl, ?_⟩) ?_ ?_
          rotate_left
          ·intro w'
           go_simp
           with_reducible rfl
          rotate_left
          ·simp only [Act.put, List.setIfInBounds_toArray, List.set_cons_zero, List.set_cons_succ, i64_w, i32_w]
           rfl
          refine pure_ (i := 2) (N := some 20) (v := ?_) (a' := ?_) #[true, true, true, false, false, false, false, false, false] rfl rfl (any_of HT_.out (by kernel_rfl)) (fun _ _ _ h => h) (Or.inl ⟨by rfl, ?_⟩) ?_ ?_
          rotate_left
          ·intro w'
           go_simp
           with_reducible rfl
          rotate_left
          ·simp only [Act.put, List.setIfInBounds_toArray, List.set_cons_zero, List.set_cons_succ, i64_w, i32_w]
           rfl
          refine pure_ (i := 4) (N := some 22) (v := ?_) (a' := ?_) #[true, true, true, false, true, false, false, false, false] rfl rfl (any_of HT_.out (by kernel_rfl)) (fun _ _ _ h => h) (Or.inl ⟨by rfl, ?_⟩) ?_ ?_
          rotate_left
          ·intro w'
           go_simp
           with_reducible rfl
          rotate_left
          ·simp only [Act.put, List.setIfInBounds_toArray, List.set_cons_zero, List.set_cons_succ, i64_w, i32_w]
           rfl
          refine pure_ (i := 5) (N := some 23) (v := ?_) (a' := ?_) #[true, true, true, false, true, true, false, false, false] rfl rfl (any_of HT_.out (by kernel_rfl)) (fun _ _ _ h => h) (Or.inl ⟨by rfl, ?_⟩) ?_ ?_
          rotate_left
          ·intro w'
           go_simp
           with_reducible rfl
          rotate_left
          ·simp only [Act.put, List.setIfInBounds_toArray, List.set_cons_zero, List.set_cons_succ, i64_w, i32_w]
           rfl
          refine pure_ (i := 6) (N := some 24) (v := ?_) (a' := ?_) #[true, true, true, false, true, true, true, false, false] rfl rfl (any_of HT_.out (by kernel_rfl)) (fun _ _ _ h => h) (Or.inl ⟨by rfl, ?_⟩) ?_ ?_
          rotate_left
          ·intro w'
           go_simp
           with_reducible rfl
          rotate_left
          ·simp only [Act.put, List.setIfInBounds_toArray, List.set_cons_zero, List.set_cons_succ, i64_w, i32_w]
           rfl
          refine take_ (i := 3) (N := some 21) (v := ?_) (a' := ?_) #[true, true, true, true, true, true, true, false, false] rfl rfl (take_ofW HT_.out HW_.out (by kernel_rfl)) (fun _ _ _ h => h) (Or.inl ⟨by rfl, ?_⟩) hHeld ?_ ?_
          rotate_left
          ·rintro w' ⟨s0, s1⟩
           go_simp
           with_reducible rfl
          rotate_left
          ·simp only [Act.put, List.setIfInBounds_toArray, List.set_cons_zero, List.set_cons_succ, i64_w, i32_w]
           rfl
          refine take_ (i := 7) (N := some 25) (v := ?_) (a' := ?_) #[true, true, true, true, true, true, true, true, false] rfl rfl (take_ofW HT_.out HW_.out (by kernel_rfl)) (fun _ _ _ h => h) (Or.inl ⟨by rfl, ?_⟩) hHeld ?_ ?_
          rotate_left
          ·rintro w' ⟨s0, s1⟩
           go_simp
           with_reducible rfl
          rotate_left
          ·simp only [Act.put, List.setIfInBounds_toArray, List.set_cons_zero, List.set_cons_succ, i64_w, i32_w]
           rfl
          refine pure_ (i := 8) (N := some 26) (v := ?_) (a' := ?_) #[true, true, true, true, true, true, true, true, true] rfl rfl (any_of HT_.out (by kernel_rfl)) (fun _ _ _ h => h) (Or.inl ⟨by rfl, ?_⟩) ?_ ?_
          rotate_left
          ·intro w'
           go_simp
           with_reducible rfl
          rotate_left
          ·simp only [Act.put, List.setIfInBounds_toArray, List.set_cons_zero, List.set_cons_succ, i64_w, i32_w]
           rfl
          refine done_ (done_of HT_.out (by kernel_rfl)) ?_
          try go_wp2
          go_roundg kj2
          case measure => have := HK1.out; have := HJ2.out; omega
          case rel => exact ⟨(wrap64 (x5_1 + 1)), (by first | rfl | (simp; done) | (simp [*]; done)), H', ⟨by have := HK1.out; have := HJ2.out; omega⟩, ⟨by repeat (first | (with_reducible first | exact HB.out | apply below_alloc | apply pw_below_drewN | apply below_drew1) | exact HB.out)⟩⟩
         ·rw [if_neg c9] at H
          have c9b0 : ((rd l0 x5_1) == (rd l1 x5_1)) = false := beq_eq_false_iff_ne.mpr c9
          have c9b1 : ((rd l0 x5_1) != (rd l1 x5_1)) = true := bne_iff_ne.mpr c9
          replace H := Option.bind_eq_some_iff.mp H
          obtain ⟨t153, A110, H⟩ := H
          replace H : (some t153) = some r := H
          have A11 := Aside0.mk A110
          clear A110
          obtain rfl := Option.some.inj H
          try go_wp2
          have n0_ := Aside0.mk (below_drew1 HB.out)
          clear HB
          have HB := n0_
          clear n0_
          have p149 : 0 ≤ (x5_1 : Int) := of_decide_eq_true (by first | (with_reducible assumption) | assumption)
          have q149 : x5_1 < (l0.length : Int) := of_decide_eq_true (by first | (with_reducible assumption) | assumption)
          obtain ⟨ad149, e149, hx149_0⟩ := Kd.at_int HR0.out x5_1 p149 q149
          have hw149_0 := hx149_0
          cases e149
          replace hx149_0 := (HB.out.cell (World.block_lt_of_cell? w _ hx149_0)).trans hx149_0
          replace p149 := eq_true p149
          replace q149 := eq_true q149
          have p150 : 0 ≤ (x5_1 : Int) := of_decide_eq_true (by first | (with_reducible assumption) | assumption)
          have q150 : x5_1 < (l1.length : Int) := of_decide_eq_true (by first | (with_reducible assumption) | assumption)
          obtain ⟨ad150, e150, hx150_0⟩ := Kd.at_int HR1.out x5_1 p150 q150
          have hw150_0 := hx150_0
          cases e150
          replace hx150_0 := (HB.out.cell (World.block_lt_of_cell? w _ hx150_0)).trans hx150_0
          replace p150 := eq_true p150
          replace q150 := eq_true q150
          refine start_ (n := 9) (S := fun w' => w'.cell? (ad149.add (x5_1).toNat) = some (.int .i64 (rd l0 x5_1)) ∧ w'.cell? (ad150.add (x5_1).toNat) = some (.int .i64 (rd l1 x5_1))) (ds := []) #[false, false, false, false, false, false, false, false, false] (by kernel_rfl) rfl rfl ⟨((HB.out.cell (World.block_lt_of_cell? w _ hw149_0)).trans hw149_0), ((HB.out.cell (World.block_lt_of_cell? w _ hw150_0)).trans hw150_0)⟩ (fun hHeld => ?_); refine with_tabW spec_l01Less.tab4 spec_l01Less.bits4 (fun HT_ HW_ => ?_)
          generalize wc.drew = w12 at HB hx149_0 hx150_0 hHeld ⊢
          refine pure_ (i := 0) (N := some 18) (v := ?_) (a' := ?_) #[true, false, false, false, false, false, false, false, false] rfl rfl (any_of HT_.out (by kernel_rfl)) (fun _ _ _ h => h) (Or.inl ⟨by rfl, ?_⟩) ?_ ?_
          rotate_left
          ·intro w'
           go_simp
           with_reducible rfl
          rotate_left
          ·simp only [Act.put, List.setIfInBounds_toArray, List.set_cons_zero, List.set_cons_succ, i64_w, i32_w]
           rfl
          refine pure_ (i := 1) (N := some 19) (v := ?_) (a' := ?_) #[true, true, false, false, false, false, false, false, false] rfl rfl (any_of HT_.out (by kernel_rfl)) (fun _ _ _ h => h) (Or.inl ⟨by rfl, ?_⟩) ?_ ?_
          rotate_left
          ·intro w'
           go_simp
           with_reducible rfl
          rotate_left
          ·simp only [Act.put, List.setIfInBounds_toArray, List.set_cons_zero, List.set_cons_succ, i64_w, i32_w]
           rfl
          refine pure_ (i := 2) (N := some 20) (v := ?_) (a' := ?_) #[true, true, true, false, false, false, false, false, false] rfl rfl (any_of HT_.out (by kernel_rfl)) (fun _ _ _ h => h) (Or.inl ⟨by rfl, ?_⟩) ?_ ?_
          rotate_left
          ·intro w'
           go_simp
           with_reducible rfl
          rotate_left
          ·simp only [Act.put, List.setIfInBounds_toArray, List.set_cons_zero, List.set_cons_succ, i64_w, i32_w]
           rfl
          refine pure_ (i := 4) (N := some 22) (v := ?_) (a' := ?_) #[true, true, true, false, true, false, false, false, false] rfl rfl (any_of HT_.out (by kernel_rfl)) (fun _ _ _ h => h) (Or.inl ⟨by rfl, ?_⟩) ?_ ?_
          rotate_left
          ·intro w'
           go_simp
           with_reducible rfl
          rotate_left
          ·simp only [Act.put, List.setIfInBounds_toArray, List.set_cons_zero, List.set_cons_succ, i64_w, i32_w]
           rfl
          refine pure_ (i := 5) (N := some 23) (v := ?_) (a' := ?_) #[true, true, true, false, true, true, false, false, false] rfl rfl (any_of HT_.out (by kernel_rfl)) (fun _ _ _ h => h) (Or.inl ⟨by rfl, ?_⟩) ?_ ?_
          rotate_left
          ·intro w'
           go_simp
           with_reducible rfl
          rotate_left
          ·simp only [Act.put, List.setIfInBounds_toArray, List.set_cons_zero, List.set_cons_succ, i64_w, i32_w]
           rfl
          refine pure_ (i := 6) (N := some 24) (v := ?_) (a' := ?_) #[true, true, true, false, true, true, true, false, false] rfl rfl (any_of HT_.out (by kernel_rfl)) (fun _ _ _ h => h) (Or.inl ⟨by rfl, ?_⟩) ?_ ?_
          rotate_left
          ·intro w'
           go_simp
           with_reducible rfl
          rotate_left
          ·simp only [Act.put, List.setIfInBounds_toArray, List.set_cons_zero, List.set_cons_succ, i64_w, i32_w]
           rfl
          refine take_ (i := 3) (N := some 21) (v := ?_) (a' := ?_) #[true, true, true, true, true, true, true, false, false] rfl rfl (take_ofW HT_.out HW_.out (by kernel_rfl)) (fun _ _ _ h => h) (Or.inl ⟨by rfl, ?_⟩) hHeld ?_ ?_
          rotate_left
          ·rintro w' ⟨s0, s1⟩
           go_simp
           with_reducible rfl
          rotate_left
          ·simp only [Act.put, List.setIfInBounds_toArray, List.set_cons_zero, List.set_cons_succ, i64_w, i32_w]
           rfl
          refine take_ (i := 7) (N := some 25) (v := ?_) (a' := ?_) #[true, true, true, true, true, true, true, true, false] rfl rfl (take_ofW HT_.out HW_.out (by kernel_rfl)) (fun _ _ _ h => h) (Or.inl ⟨by rfl, ?_⟩) hHeld ?_ ?_
          rotate_left
          ·rintro w' ⟨s0, s1⟩
           go_simp
           with_reducible rfl
          rotate_left
          ·simp only [Act.put, List.setIfInBounds_toArray, List.set_cons_zero, List.set_cons_succ, i64_w, i32_w]
           rfl
          refine pure_ (i := 8) (N := some 26) (v := ?_) (a' := ?_) #[true, true, true, true, true, true, true, true, true] rfl rfl (any_of HT_.out (by kernel_rfl)) (fun _ _ _ h => h) (Or.inl ⟨by rfl, ?_⟩) ?_ ?_
          rotate_left
          ·intro w'
           go_simp
           with_reducible rfl
          rotate_left
          ·simp only [Act.put, List.setIfInBounds_toArray, List.set_cons_zero, List.set_cons_succ, i64_w, i32_w]
           rfl
          refine done_ (done_of HT_.out (by kernel_rfl)) ?_
          try go_wp2
          have n0_ := Aside0.mk (below_drew1 HB.out)
          clear HB
          have HB := n0_
          clear n0_
          have p151 : 0 ≤ (x5_1 : Int) := of_decide_eq_true (by first | (with_reducible assumption) | assumption)
          have q151 : x5_1 < (l0.length : Int) := of_decide_eq_true (by first | (with_reducible assumption) | assumption)
          obtain ⟨ad151, e151, hx151_0⟩ := Kd.at_int HR0.out x5_1 p151 q151
          have hw151_0 := hx151_0
          obtain rfl : ad149 = ad151 := (by injection e151)
          replace hx151_0 := (HB.out.cell (World.block_lt_of_cell? w _ hx151_0)).trans hx151_0
          replace p151 := eq_true p151
          replace q151 := eq_true q151
          have p152 : 0 ≤ (x5_1 : Int) := of_decide_eq_true (by first | (with_reducible assumption) | assumption)
          have q152 : x5_1 < (l1.length : Int) := of_decide_eq_true (by first | (with_reducible assumption) | assumption)
          obtain ⟨ad152, e152, hx152_0⟩ := Kd.at_int HR1.out x5_1 p152 q152
          have hw152_0 := hx152_0
          obtain rfl : ad150 = ad152 := (by injection e152)
          replace hx152_0 := (HB.out.cell (World.block_lt_of_cell? w _ hx152_0)).trans hx152_0
          replace p152 := eq_true p152
          replace q152 := eq_true q152
          refine start_ (n := 10) (S := fun w' => w'.cell? (ad149.add (x5_1).toNat) = some (.int .i64 (rd l0 x5_1)) ∧ w'.cell? (ad150.add (x5_1).toNat) = some (.int .i64 (rd l1 x5_1))) (ds := []) #[false, false, false, false, false, false, false, false, false, false] (by kernel_rfl) rfl rfl ⟨((HB.out.cell (World.block_lt_of_cell? w _ hw151_0)).trans hw151_0), ((HB.out.cell (World.block_lt_of_cell? w _ hw152_0)).trans hw152_0)⟩ (fun hHeld => ?_); refine with_tabW spec_l01Less.tab5 spec_l01Less.bits5 (fun HT_ HW_ => ?_)
          generalize w12.drew = w13 at HB hx151_0 hx152_0 hHeld ⊢
          refine pure_ (i := 0) (N := some 27) (v := ?_) (a' := ?_) #[true, false, false, false, false, false, false, false, false, false] rfl rfl (any_of HT_.out (by kernel_rfl)) (fun _ _ _ h => h) (Or.inl ⟨by rfl, ?_⟩) ?_ ?_
          rotate_left
          ·intro w'
           go_simp
           with_reducible rfl
          rotate_left
          ·simp only [Act.put, List.setIfInBounds_toArray, List.set_cons_zero, List.set_cons_succ, i64_w, i32_w]
           rfl
          refine pure_ (i := 1) (N := some 28) (v := ?_) (a' := ?_) #[true, true, false, false, false, false, false, false, false, false] rfl rfl (any_of HT_.out (by kernel_rfl)) (fun _ _ _ h => h) (Or.inl ⟨by rfl, ?_⟩) ?_ ?_
          rotate_left
          ·intro w'
           go_simp
           with_reducible rfl
          rotate_left
          ·simp only [Act.put, List.setIfInBounds_toArray, List.set_cons_zero, List.set_cons_succ, i64_w, i32_w]
           rfl
          refine pure_ (i := 2) (N := some 29) (v := ?_) (a' := ?_) #[true, true, true, false, false, false, false, false, false, false] rfl rfl (any_of HT_.out (by kernel_rfl)) (fun _ _ _ h => h) (Or.inl ⟨by rfl, ?_⟩) ?_ ?_
          rotate_left
          ·intro w'
           go_simp
           with_reducible rfl
          rotate_left
          ·simp only [Act.put, List.setIfInBounds_toArray, List.set_cons_zero, List.set_cons_succ, i64_w, i32_w]
           rfl
          refine pure_ (i := 4) (N := some 31) (v := ?_) (a' := ?_) #[true, true, true, false, true, false, false, false, false, false] rfl rfl (any_of HT_.out (by kernel_rfl)) (fun _ _ _ h => h) (Or.inl ⟨by rfl, ?_⟩) ?_ ?_
          rotate_left
          ·intro w'
           go_simp
           with_reducible rfl
          rotate_left
          ·simp only [Act.put, List.setIfInBounds_toArray, List.set_cons_zero, List.set_cons_succ, i64_w, i32_w]
           rfl
          refine pure_ (i := 5) (N := some 32) (v := ?_) (a' := ?_) #[true, true, true, false, true, true, false, false, false, false] rfl rfl (any_of HT_.out (by kernel_rfl)) (fun _ _ _ h => h) (Or.inl ⟨by rfl, ?_⟩) ?_ ?_
          rotate_left
          ·intro w'
           go_simp
           with_reducible rfl
          rotate_left
          ·simp only [Act.put, List.setIfInBounds_toArray, List.set_cons_zero, List.set_cons_succ, i64_w, i32_w]
           rfl
          refine pure_ (i := 6) (N := some 33) (v := ?_) (a' := ?_) #[true, true, true, false, true, true, true, false, false, false] rfl rfl (any_of HT_.out (by kernel_rfl)) (fun _ _ _ h => h) (Or.inl ⟨by rfl, ?_⟩) ?_ ?_
          rotate_left
          ·intro w'
           go_simp
           with_reducible rfl
          rotate_left
          ·simp only [Act.put, List.setIfInBounds_toArray, List.set_cons_zero, List.set_cons_succ, i64_w, i32_w]
           rfl
          refine take_ (i := 3) (N := some 30) (v := ?_) (a' := ?_) #[true, true, true, true, true, true, true, false, false, false] rfl rfl (take_ofW HT_.out HW_.out (by kernel_rfl)) (fun _ _ _ h => h) (Or.inl ⟨by rfl, ?_⟩) hHeld ?_ ?_
          rotate_left
          ·rintro w' ⟨s0, s1⟩
           go_simp
           with_reducible rfl
          rotate_left
          ·simp only [Act.put, List.setIfInBounds_toArray, List.set_cons_zero, List.set_cons_succ, i64_w, i32_w]
           rfl
          refine take_ (i := 7) (N := some 34) (v := ?_) (a' := ?_) #[true, true, true, true, true, true, true, true, false, false] rfl rfl (take_ofW HT_.out HW_.out (by kernel_rfl)) (fun _ _ _ h => h) (Or.inl ⟨by rfl, ?_⟩) hHeld ?_ ?_
          rotate_left
          ·rintro w' ⟨s0, s1⟩
           go_simp
           with_reducible rfl
          rotate_left
          ·simp only [Act.put, List.setIfInBounds_toArray, List.set_cons_zero, List.set_cons_succ, i64_w, i32_w]
           rfl
          refine one_ (i := 8) (N := some 35) #[true, true, true, true, true, true, true, true, true, false] rfl rfl (one_of HT_.out (by kernel_rfl)) (by decide) (fun K hK => ?_)
          refine goes_ Try.func111 (by kernel_rfl) rfl #[.int .i64 (rd l0 x5_1), .int .i64 (rd l1 x5_1)] (by rfl) rfl rfl (by (try simp only [List.map_toArray, List.map_cons, List.map_nil]); first | done | rfl | (simp only [List.length_drop, List.length_take]; rfl)) ?_
          with_reducible refine (spec_l01Before.calls (rd l0 x5_1) (rd l1 x5_1) t153 _ A11.out).mono ?_
          rintro e w14 ⟨rfl, hb⟩
          refine ⟨_, rfl, ?_⟩
          have n0_ := Aside0.mk (below_step (by repeat (first | (with_reducible first | exact HB.out | apply below_alloc | apply pw_below_drewN | apply below_drew1) | exact HB.out)) hb)
          clear HB
          have HB := n0_
          clear n0_
          (try clear hb)
          (try clear hb2)
          (try clear hk)
          (try clear hi)
          refine hK.out _ _ ⟨((HB.out.cell (World.block_lt_of_cell? w _ hw151_0)).trans hw151_0), ((HB.out.cell (World.block_lt_of_cell? w _ hw152_0)).trans hw152_0)⟩ (fun hHeld => ?_)
          clear hK K
          refine norm_ (a' := ?_) ?_ ?_
          rotate_left
          ·show Act.put _ (some 35) _ = _
           simp only [Act.put, List.setIfInBounds_toArray, List.set_cons_zero, List.set_cons_succ, i64_w, i32_w]
           rfl
          refine pure_ (i := 9) (N := some 4) (v := ?_) (a' := ?_) #[true, true, true, true, true, true, true, true, true, true] rfl rfl (any_of HT_.out (by kernel_rfl)) (fun _ _ _ h => h) (Or.inl ⟨by rfl, ?_⟩) ?_ ?_
          rotate_left
          ·intro w'
           go_simp
           with_reducible rfl
          rotate_left
          ·simp only [Act.put, List.setIfInBounds_toArray, List.set_cons_zero, List.set_cons_succ, i64_w, i32_w]
           rfl
          refine done_ (done_of HT_.out (by kernel_rfl)) ?_
          try go_wp2
          go_ret
          exact ⟨by first | rfl | (simp [errW_none, errW_some] <;> rfl) | (simp [*, errW_none, errW_some] <;> rfl), by repeat (first | (with_reducible first | exact HB.out | apply below_alloc | apply pw_below_drewN | apply below_drew1) | exact HB.out)⟩
        ·rw [if_neg c8] at H
         exact absurd H (by simp)
       ·rw [if_neg c7] at H
        exact absurd H (by simp)
      ·rw [if_neg c6] at H
       exact absurd H (by simp)
     ·replace c5 := Bool.eq_false_iff.mpr c5
      subst c5
      have H1 : (some (decide ((l0.length : Int) < (l1.length : Int)))) = some r := by rw [if_neg (show ¬ (false = true) by decide)] at H; exact H
      clear H
      have H := H1
      clear H1
      obtain rfl := Option.some.inj H
      go_wp2
      go_ret
      exact ⟨by first | rfl | (simp [errW_none, errW_some] <;> rfl) | (simp [*, errW_none, errW_some] <;> rfl), by repeat (first | (with_reducible first | exact HB.out | apply below_alloc | apply pw_below_drewN | apply below_drew1) | exact HB.out)⟩
def spec_l01Same.l0 : Nat → List Int → List Int → Int → Option (Bool)
 | 0, _, _, _ => none
 | k + 1, x0, x1, x5 => if x5 < (x0.length : Int) then (if 0 ≤ x5 then (if x5 < (x1.length : Int) then (if (rd x0 x5) = (rd x1 x5) then (spec_l01Same.l0 k x0 x1 (wrap64 (x5 + 1))) else (some false)) else (none)) else (none)) else (some true)
def spec_l01Same.f (k : Nat) (l0 : List Int) (l1 : List Int) : Option (Bool) := if (l0.length : Int) = (l1.length : Int) then (spec_l01Same.l0 k l0 l1 0) else (some false)
set_option maxHeartbeats 8000000 in
set_option maxRecDepth 100000 in
theorem spec_l01Same.calls (k : Nat) (A0 : Option Addr) (c0 : Nat) (l0 : List Int) (A1 : Option Addr) (c1 : Nat) (l1 : List Int) (r : Bool) (w : World) (hr0 : Kd.C (Kd.int .i64) w A0 l0.length l0) (hc0 : l0.length ≤ c0) (hr1 : Kd.C (Kd.int .i64) w A1 l1.length l1) (hc1 : l1.length ≤ c1) (h : spec_l01Same.f k l0 l1 = some r) :
  Calls Try.prog 90 #[.slice A0 l0.length c0, .slice A1 l1.length c1] w fun e w' => e = .returned (.bool r) ∧ Drawn0 w w' := by
 have HR0 := Aside0.mk hr0
 have HC0 := Aside0.mk hc0
 clear hr0 hc0
 have HR1 := Aside0.mk hr1
 have HC1 := Aside0.mk hc1
 clear hr1 hc1
 have H : (if (l0.length : Int) = (l1.length : Int) then (spec_l01Same.l0 k l0 l1 0) else (some false)) = some r := h
 clear h
 by_cases c3 : (l0.length : Int) = (l1.length : Int)
 ·rw [if_pos c3] at H
  have c3b0 : ((l0.length : Int) == (l1.length : Int)) = true := beq_iff_eq.mpr c3
  have c3b1 : ((l0.length : Int) != (l1.length : Int)) = false := bne_eq_false_iff_eq.mpr c3
  have c3b2 : (l0.length == l1.length) = true := by first | simpa using c3 | (simp at c3 ⊢; omega)
  clear c3
  have H' := Aside0.mk H
  clear H
  go_enter Try.func90, Try.ntmps90
  go_wp2
  repeat (go_quiet (fail); try go_wp2)
  go_loopg [5] k (fun kq v5 w' => ∃ (x5_1 : Int), v5 = .int .i64 x5_1 ∧ Aside0 (spec_l01Same.l0 kq l0 l1 x5_1 = some r) ∧ Aside0 (kq ≤ k) ∧ Drawn0 w w')
  case atStart => exact ⟨(0), (by first | rfl | (simp; done) | (simp [*]; done)), H', ⟨Nat.le_refl _⟩, by repeat (first | exact Drawn0.refl _ | apply Drawn0.step)⟩
  case round =>
   clear H'
   try clear c1
   try clear p2
   try clear c3
   try clear c3b0
   try clear c3b1
   try clear c3b2
   obtain ⟨x5_1, rfl, HA, HK1, ⟨m1, rfl⟩⟩ := hrel
   cases gk with
   | zero => exact absurd HA.out (by simp [spec_l01Same.l0])
   | succ k1 =>
    have H := HA.out
    clear HA
    simp only [spec_l01Same.l0] at H
    by_cases c4 : x5_1 < (l0.length : Int)
    ·rw [if_pos c4] at H
     have c4b0 : decide (x5_1 < (l0.length : Int)) = true := decide_eq_true c4
     clear c4
     by_cases c5 : 0 ≤ x5_1
     ·rw [if_pos c5] at H
      have c5b0 : decide (0 ≤ x5_1) = true := decide_eq_true c5
      clear c5
      by_cases c6 : x5_1 < (l1.length : Int)
      ·rw [if_pos c6] at H
       have c6b0 : decide (x5_1 < (l1.length : Int)) = true := decide_eq_true c6
       clear c6
       by_cases c7 : (rd l0 x5_1) = (rd l1 x5_1)
       ·rw [if_pos c7] at H
        have c7b0 : ((rd l0 x5_1) == (rd l1 x5_1)) = true := beq_iff_eq.mpr c7
        have c7b1 : ((rd l0 x5_1) != (rd l1 x5_1)) = false := bne_eq_false_iff_eq.mpr c7
        clear c7
        have H' := Aside0.mk H
        clear H
        have p154 : 0 ≤ (x5_1 : Int) := of_decide_eq_true (by first | (with_reducible assumption) | assumption)
        have q154 : x5_1 < (l0.length : Int) := of_decide_eq_true (by first | (with_reducible assumption) | assumption)
        obtain ⟨ad154, e154, hx154_0⟩ := Kd.at_int HR0.out x5_1 p154 q154
        cases e154
        replace p154 := eq_true p154
        replace q154 := eq_true q154
        have p155 : 0 ≤ (x5_1 : Int) := of_decide_eq_true (by first | (with_reducible assumption) | assumption)
        have q155 : x5_1 < (l1.length : Int) := of_decide_eq_true (by first | (with_reducible assumption) | assumption)
        obtain ⟨ad155, e155, hx155_0⟩ := Kd.at_int HR1.out x5_1 p155 q155
        cases e155
        replace p155 := eq_true p155
        replace q155 := eq_true q155
        go_wp2
        repeat (go_quiet (fail); try go_wp2)
        go_roundg k1
        case measure => have := HK1.out; omega
        case rel => exact ⟨(wrap64 (x5_1 + 1)), (by first | rfl | (simp; done) | (simp [*]; done)), H', ⟨by have := HK1.out; omega⟩, by repeat (first | exact Drawn0.refl _ | apply Drawn0.step)⟩
       ·rw [if_neg c7] at H
        have c7b0 : ((rd l0 x5_1) == (rd l1 x5_1)) = false := beq_eq_false_iff_ne.mpr c7
        have c7b1 : ((rd l0 x5_1) != (rd l1 x5_1)) = true := bne_iff_ne.mpr c7
        obtain rfl := Option.some.inj H
        have p154 : 0 ≤ (x5_1 : Int) := of_decide_eq_true (by first | (with_reducible assumption) | assumption)
        have q154 : x5_1 < (l0.length : Int) := of_decide_eq_true (by first | (with_reducible assumption) | assumption)
        obtain ⟨ad154, e154, hx154_0⟩ := Kd.at_int HR0.out x5_1 p154 q154
        cases e154
        replace p154 := eq_true p154
        replace q154 := eq_true q154
        have p155 : 0 ≤ (x5_1 : Int) := of_decide_eq_true (by first | (with_reducible assumption) | assumption)
        have q155 : x5_1 < (l1.length : Int) := of_decide_eq_true (by first | (with_reducible assumption) | assumption)
        obtain ⟨ad155, e155, hx155_0⟩ := Kd.at_int HR1.out x5_1 p155 q155
        cases e155
        replace p155 := eq_true p155
        replace q155 := eq_true q155
        go_wp2
        repeat (go_quiet (fail); try go_wp2)
        go_ret
        exact ⟨by first | rfl | (simp; done) | (simp [*]; done), by repeat (first | exact Drawn0.refl _ | apply Drawn0.step)⟩
      ·rw [if_neg c6] at H
       exact absurd H (by simp)
     ·rw [if_neg c5] at H
      exact absurd H (by simp)
    ·rw [if_neg c4] at H
     have c4b0 : decide (x5_1 < (l0.length : Int)) = false := decide_eq_false c4
     clear c4
     obtain rfl := Option.some.inj H
     go_wp2
     repeat (go_quiet (fail); try go_wp2)
     go_ret
     exact ⟨by first | rfl | (simp; done) | (simp [*]; done), by repeat (first | exact Drawn0.refl _ | apply Drawn0.step)⟩
 ·rw [if_neg c3] at H
  have c3b0 : ((l0.length : Int) == (l1.length : Int)) = false := beq_eq_false_iff_ne.mpr c3
  have c3b1 : ((l0.length : Int) != (l1.length : Int)) = true := bne_iff_ne.mpr c3
  have c3b2 : (l0.length == l1.length) = false := by first | simpa using c3 | (simp at c3 ⊢; omega)
  obtain rfl := Option.some.inj H
  go_enter Try.func90, Try.ntmps90
  go_wp2
  repeat (go_quiet (fail); try go_wp2)
  go_ret
  exact ⟨by first | rfl | (simp; done) | (simp [*]; done), by repeat (first | exact Drawn0.refl _ | apply Drawn0.step)⟩
end Go.Proofs.Ytelfahcjeldliaa.PFnExactNormalCnf
end
section
namespace Go.Proofs.Ytelfahcjeldliaa.PFnExactNormalCnf
open Go.RowKit Go.Proofs.YtelfahcjeldliaaW.PrintWords Go.Proofs.YtelfahcjeldliaaW.PrintLast Go.Proofs.YtelfahcjeldliaaW.PrintMore
attribute [local go_sem] max2_int min2_int max_two min_two max_three min_three max_four min_four   -- for this text's walks alone
set_option linter.unusedVariables false
set_option linter.unusedSimpArgs false
theorem less_l0 (a b : List Int) (hna : a.length ≤ 9223372036854775807) (ha : ∀ x ∈ a, inR x) (hb : ∀ x ∈ b, inR x) : ∀ (d i : Nat), i + d = a.length → ∃ k, spec_l01Less.l0 k a b (i : Int) = some (decide (cmpL (a.drop i) (b.drop i) < 0)) := by
 intro d
 induction d with
 | zero =>
  intro i hi
  refine ⟨2, ?_⟩
  rw [spec_l01Less.l0, if_neg (by omega), spec_l01Less.j1, if_neg (by decide), List.drop_of_length_le (by omega : a.length ≤ i)]
  by_cases hb1 : i < b.length
  ·rw [List.drop_eq_getElem_cons hb1, cmpL, decide_eq_true (show (a.length : Int) < b.length by omega)]
   rfl
  ·rw [List.drop_of_length_le (by omega : b.length ≤ i), cmpL, decide_eq_false (show ¬ (a.length : Int) < b.length by omega)]
   rfl
 | succ d ih =>
  intro i hi
  have h1 : i < a.length := by omega
  have r1 : rd a (i : Int) = a[i] := by unfold rd; simp [List.getD, h1]
  rw [List.drop_eq_getElem_cons h1]
  by_cases h2 : i < b.length
  ·have r2 : rd b (i : Int) = b[i] := by unfold rd; simp [List.getD, h2]
   have hw : wrap64 ((i : Int) + 1) = ((i + 1 : Nat) : Int) := IntWalk.wrap64_in _ (by omega)
   obtain ⟨k, hk⟩ := ih (i + 1) (by omega)
   refine ⟨k + 2, ?_⟩
   rw [List.drop_eq_getElem_cons h2, cmpL, spec_l01Less.l0, if_pos (by omega), spec_l01Less.j1, if_pos (decide_eq_true (by omega)), if_pos (by omega), if_pos (by omega), if_pos (by omega), r1, r2, hw, hk, before_is (ha _ (List.getElem_mem h1)) (hb _ (List.getElem_mem h2))]
   by_cases he : a[i] = b[i]
   ·rw [if_pos he, if_pos (by rw [he]; omega)]
   ·rw [if_neg he, if_neg (fun h => he (rk_inj (by omega)))]
    exact congrArg some (decide_eq_decide.2 (by omega))
  ·refine ⟨2, ?_⟩
   rw [List.drop_of_length_le (by omega : b.length ≤ i), cmpL, spec_l01Less.l0, if_pos (by omega), spec_l01Less.j1, if_neg (by rw [decide_eq_true_eq]; omega), decide_eq_false (show ¬ (a.length : Int) < b.length by omega)]
   rfl
theorem less_is (a b : List Int) (hna : a.length ≤ 9223372036854775807) (ha : ∀ x ∈ a, inR x) (hb : ∀ x ∈ b, inR x) : ∃ k, spec_l01Less.f k a b = some (decide (cmpL a b < 0)) := less_l0 a b hna ha hb a.length 0 (by omega)
theorem same_l0 (l l' : List Int) (hl : l.length = l'.length) (hn : l.length ≤ 9223372036854775807) : ∀ (d i : Nat), i + d = l.length → ∃ k, spec_l01Same.l0 k l l' (i : Int) = some (decide (l.drop i = l'.drop i)) := by
 intro d
 induction d with
 | zero =>
  intro i hi
  refine ⟨1, ?_⟩
  rw [spec_l01Same.l0, if_neg (by omega), List.drop_of_length_le (by omega), List.drop_of_length_le (by omega)]
  rfl
 | succ d ih =>
  intro i hi
  obtain ⟨k, hk⟩ := ih (i + 1) (by omega)
  refine ⟨k + 1, ?_⟩
  have hw : wrap64 ((i : Int) + 1) = ((i + 1 : Nat) : Int) := IntWalk.wrap64_in _ (by omega)
  have h1 : i < l.length := by omega
  have h2 : i < l'.length := by omega
  have r1 : rd l (i : Int) = l[i] := by unfold rd; simp [List.getD, h1]
  have r2 : rd l' (i : Int) = l'[i] := by unfold rd; simp [List.getD, h2]
  rw [spec_l01Same.l0, if_pos (by omega), if_pos (by omega), if_pos (by omega), hw, hk, r1, r2]
  have hd : (l.drop i = l'.drop i) ↔ (l[i] = l'[i] ∧ l.drop (i + 1) = l'.drop (i + 1)) := by
   rw [List.drop_eq_getElem_cons h1, List.drop_eq_getElem_cons h2, List.cons.injEq]
  by_cases he : l[i] = l'[i]
  ·rw [if_pos he]
   exact congrArg some (decide_eq_decide.2 (by rw [hd]; exact ⟨fun h => ⟨he, h⟩, fun h => h.2⟩))
  ·rw [if_neg he, decide_eq_false (fun h => he (hd.1 h).1)]
theorem same_is (l l' : List Int) (hn : l.length ≤ 9223372036854775807) : ∃ k, spec_l01Same.f k l l' = some (decide (l = l')) := by
 by_cases hl : l.length = l'.length
 ·obtain ⟨k, hk⟩ := same_l0 l l' hl hn l.length 0 (by omega)
  refine ⟨k, ?_⟩
  rw [spec_l01Same.f, if_pos (by omega)]
  simpa using hk
 ·refine ⟨0, ?_⟩
  rw [spec_l01Same.f, if_neg (by omega), decide_eq_false (fun e => hl (by rw [e]))]
theorem insAll_inR : ∀ (l o : List Int), (∀ x ∈ l, inR x) → (∀ x ∈ o, inR x) → ∀ x ∈ insAll l o, inR x
 | [], o, _, ho => ho
 | c :: r, o, hl, ho => insAll_inR r _ (fun x hx => hl x (List.mem_cons_of_mem _ hx)) (insR_in (hl c List.mem_cons_self) ho)
structure GrowIn (w w' : World) (g n : Nat) : Prop where
 os : w'.os = w.os
 tape : w'.tape = w.tape
 output : w'.output = w.output
 size : w.heap.size ≤ w'.heap.size
 block : ∀ k, k < w.heap.size → w'.heap[k]? = w.heap[k]? ∨ (k = g ∧ ∃ cs cs', w.heap[k]? = some (.cells cs 37 (0, 0)) ∧ w'.heap[k]? = some (.cells cs' 37 (0, 0)) ∧ cs'.size = cs.size ∧ cs'.toList.take n = cs.toList.take n ∧ 0 < cs.size)
theorem GrowIn.of_below {w w' : World} {g n : Nat} (h : Below w.heap.size w w') : GrowIn w w' g n := ⟨h.os, h.tape, h.output, h.size, fun k hk => .inl (h.block k hk)⟩
theorem GrowIn.below {w w' : World} {g n B : Nat} (h : GrowIn w w' g n) (hB : B ≤ g) (hw : B ≤ w.heap.size) : Below B w w' := ⟨h.os, h.tape, h.output, h.size, fun k hk => by
 rcases h.block k (Nat.lt_of_lt_of_le hk hw) with q | ⟨q, _⟩
 ·exact q
 ·omega⟩
theorem app37 {w : World} {base g n cap : Nat} {cur : Array Value} (hk : w.heap[g]? = some (.cells cur 37 (0, 0))) (hsz : cur.size = cap) (hnc : n ≤ cap) (hcm : cap ≤ maxLen) (hbg : base ≤ g) (hbw : base ≤ w.heap.size)
  (A : Option Addr) (m c : Nat) (news : List Value) (hn : news.length = m) (h1 : ∀ u ∈ news, u.oneCell' = true) (hA : A = none → m = 0 ∧ c = 0) (hcell : ∀ a, A = some a → ∀ (j : Nat) u, news[j]? = some u → w.cell? (a.add j) = some u) (hl : n + m ≤ 8192) :
  ∃ v' w', (∀ ty, (Builtin.append_ #[22, 22] ty #[.slice (some ⟨g, 0, none⟩) n cap, .slice A m c]).run Try.prog w = .ok v' w') ∧ w'.ownsRow base 37 1 v' (n + m) (cur.toList.take n ++ news) ∧ GrowIn w w' g n ∧ (v'.ownBlock = some g ∨ ∃ b, v'.ownBlock = some b ∧ w.heap.size ≤ b) := by
 obtain ⟨i0, hi, hzz⟩ := Option.map_eq_some_iff.1 info37
 simp only [Prod.mk.injEq] at hzz
 obtain ⟨hz, hsize, hby⟩ := hzz
 have htl : (cur.toList.take n).length = n := by rw [List.length_take, Array.length_toList]; omega
 cases A with
 | none =>
  obtain ⟨rfl, rfl⟩ := hA rfl
  have hn0 : news = [] := List.eq_nil_of_length_eq_zero hn
  subst hn0
  refine ⟨_, w, fun ty => ?_, ⟨by rw [List.append_nil, htl]; omega, .inr ⟨g, cap, cur, rfl, hbg, hk, by omega, hcm, by omega, by rw [List.append_nil, Nat.add_zero, Nat.mul_one]⟩⟩, GrowIn.of_below (Below.refl _ _), .inl rfl⟩
  have hu := run_underlying Try.underlying22
  have hroom : n + 0 ≤ cap := hnc
  simp [Builtin.append_, hu, sizeOf, typeInfo, hi, hsize, Builtin.lenOf, Builtin.firstCells, storeCells, hnc]
 | some a =>
  have hcell := hcell a rfl
  by_cases hr : n + m ≤ cap
  ·have hrun := fun ty => run_append_room (P := Try.prog) w 22 ty 37 i0 Try.underlying22 hi g n cap cur hk a m c news (by rw [hn, hsize, Nat.mul_one]) hcell h1 hr (by rw [hsize, hn]; omega)
   rw [hsize, Nat.mul_one] at hrun
   generalize hC : (cur.toList.take n ++ news ++ cur.toList.drop (n + news.length)).toArray = C at hrun
   have hCs : C.size = cap := by rw [← hC]; simp only [List.size_toArray, List.length_append, List.length_take, List.length_drop, Array.length_toList]; omega
   have hk2 : (w.setRow g C).heap[g]? = some (.cells C 37 (0, 0)) := setRow_heap w g cur C 37 _ hk
   have hct : C.toList.take (n + m) = cur.toList.take n ++ news := by
    rw [← hC]
    show List.take (n + m) (cur.toList.take n ++ news ++ cur.toList.drop (n + news.length)) = _
    rw [show n + m = (cur.toList.take n ++ news).length by rw [List.length_append, htl, hn]]
    exact List.take_left
   refine ⟨_, _, hrun, ⟨by rw [List.length_append, htl, hn, Nat.mul_one], .inr ⟨g, cap, C, rfl, hbg, hk2, hr, hcm, by omega, by rw [Nat.mul_one]; exact hct⟩⟩, ?_, .inl rfl⟩
   refine ⟨rfl, rfl, rfl, by simp, fun k hk' => ?_⟩
   by_cases hkg : k = g
   ·subst hkg
    by_cases h0 : 0 < cur.size
    ·refine .inr ⟨rfl, cur, C, hk, hk2, by omega, ?_, h0⟩
     have := congrArg (List.take n) hct
     rw [List.take_take, Nat.min_eq_left (by omega), List.take_append_of_le_length (by rw [htl]; omega), List.take_take, Nat.min_self] at this
     exact this
    ·left
     have e1 : cur = #[] := Array.eq_empty_of_size_eq_zero (by omega)
     have e2 : C = #[] := Array.eq_empty_of_size_eq_zero (by omega)
     rw [hk2, hk, e1, e2]
   ·exact .inl (setRow_other w g k _ hkg)
  ·have hrun := fun ty => run_append_grow (P := Try.prog) w 22 ty 37 i0 (.slice none 0 0) Try.underlying22 hi hz ⟨g, 0, none⟩ n cap (cur.toList.take n) (by rw [htl, hsize, Nat.mul_one]) (fun j v h => by
     rw [add_zero_off, cell_at_heap hk]
     have hj : j < n := by have := (List.getElem?_eq_some_iff.1 h).1; omega
     rw [List.getElem?_take_of_lt hj] at h
     simpa using h) a m c news (by rw [hn, hsize, Nat.mul_one]) hcell (by omega) (by omega) (by rw [hby]; exact growslice_fits (by omega) (by omega))
   have hge := grownCap_ge w (n + m) cap 37
   have hcm2 : grownCap w (n + m) cap 37 ≤ maxLen := grownCap_le_maxLen w (n + m) cap 37 (by simp only [maxLen]; omega)
   refine ⟨_, _, hrun, ⟨by rw [List.length_append, htl, hn, Nat.mul_one], .inr ⟨w.heap.size, _, _, rfl, hbw, heap_alloc_new w.drew _, by omega, hcm2, ?_, ?_⟩⟩, GrowIn.of_below ⟨rfl, rfl, rfl, by simp, fun k hk => heap_alloc_old w.drew _ (show k < w.drew.heap.size from hk)⟩, .inr ⟨_, rfl, Nat.le_refl _⟩⟩
   ·have hz1 : (Value.slice none 0 0).cells.size = 1 := rfl
    simp only [Array.size_append, List.size_toArray, size_zeroCells, hz1, htl, hn]
    omega
   ·simp only [Array.toList_append]
    rw [Nat.mul_one, show n + m = (cur.toList.take n ++ news).length by rw [List.length_append, htl, hn]]
    exact List.take_left
def VP.own (base n : Nat) (xs : List Value) : VP := ⟨fun B W v => (∃ g cap, v = .slice (some ⟨g, 0, none⟩) n cap ∧ ¬ B g) ∧ W.ownsRow base 37 1 v n xs, fun B B' W W' v hb _ h1 h => by
 obtain ⟨⟨g, cap, rfl, hB⟩, ho⟩ := h
 refine ⟨⟨g, cap, rfl, fun hg => ?_⟩, owns_below ho hb⟩
 rcases h1 g hg with q | q
 ·exact hB q
 ·rcases ho.2 with ⟨h, _⟩ | ⟨g2, cap2, cur, h, _, hk, _⟩
  ·cases h
  ·cases h
   have := lt_of_heap hk
   omega⟩
def VP.lit0n (base : Nat) : VP := ⟨fun B W v => ∃ g, v = .slice (some ⟨g, 0, none⟩) 0 0 ∧ base ≤ g ∧ ¬ B g ∧ W.heap[g]? = some (.cells #[] 37 (0, 0)), fun B B' W W' v hb _ h1 ⟨g, hv, hg, hB, hk⟩ => ⟨g, hv, hg, fun q => (h1 g q).elim hB (fun q2 => by have := lt_of_heap hk; omega), heap_keep hk hb⟩⟩
def VP.lit1 (u : Value) : VP := ⟨fun B W v => ∃ g, v = .slice (some ⟨g, 0, none⟩) 1 1 ∧ B g ∧ W.heap[g]? = some (.cells #[u] 37 (0, 0)), fun B B' W W' v hb h0 _ ⟨g, hv, hB, hk⟩ => ⟨g, hv, h0 g hB, heap_keep hk hb⟩⟩
theorem VP.own_grow {base n m g : Nat} {xs : List Value} {B : Nat → Prop} {W W' : World} {v : Value} (h : (VP.own base m xs).p B W v) (hg : GrowIn W W' g n) (hmn : m ≤ n) : (VP.own base m xs).p B W' v := by
 obtain ⟨⟨g1, cap, rfl, hB⟩, hl, ho⟩ := h
 refine ⟨⟨g1, cap, rfl, hB⟩, hl, ?_⟩
 rcases ho with ⟨h, _⟩ | ⟨g2, cap2, cur, h, hb, hk, h1, h2, h3, h4⟩
 ·cases h
 ·cases h
  rcases hg.block g1 (lt_of_heap hk) with q | ⟨rfl, cs, cs', e1, e2, e3, e4, _⟩
  ·exact .inr ⟨g1, cap, cur, rfl, hb, q.trans hk, h1, h2, h3, h4⟩
  ·rw [hk] at e1
   cases e1
   refine .inr ⟨g1, cap, cs', rfl, hb, e2, h1, h2, by omega, ?_⟩
   have := congrArg (List.take m) e4
   rw [List.take_take, List.take_take, Nat.min_eq_left hmn] at this
   rw [Nat.mul_one] at h4 ⊢
   rw [this]
   exact h4
theorem VP.lit0n_grow {base n g : Nat} {B : Nat → Prop} {W W' : World} {v : Value} (h : (VP.lit0n base).p B W v) (hg : GrowIn W W' g n) : (VP.lit0n base).p B W' v := by
 obtain ⟨g1, hv, hb, hB, hk⟩ := h
 refine ⟨g1, hv, hb, hB, ?_⟩
 rcases hg.block g1 (lt_of_heap hk) with q | ⟨rfl, cs, cs', e1, e2, e3, e4, e5⟩
 ·exact q.trans hk
 ·rw [hk] at e1
  cases e1
  simp at e5
theorem VP.lit1_grow {n g : Nat} {u : Value} {B : Nat → Prop} {W W' : World} {v : Value} (h : (VP.lit1 u).p B W v) (hg : GrowIn W W' g n) (hB2 : ¬ B g) : (VP.lit1 u).p B W' v := by
 obtain ⟨g1, hv, hB, hk⟩ := h
 refine ⟨g1, hv, hB, ?_⟩
 rcases hg.block g1 (lt_of_heap hk) with q | ⟨rfl, _⟩
 ·exact q.trans hk
 ·exact absurd hB hB2
section
variable {ops : Array Oper} {Q : Exit → Act → World → Prop} {o : Oper} {b : Act} {W : World} {K : Act → World → Prop} {s s1 s2 s3 : Tmp}
theorem x_fa30 {g i : Nat} (ho : o.op = .fieldAddr 30 (.tmp s) i) (hi : i < 2) (h : b.eval (.tmp s) = .pointer (some ⟨g, 0, none⟩)) : (execOp b.eval o).run Try.prog W = .ok (.value (.pointer (some ⟨g, i, none⟩))) W := by
 have hu30 := Try.underlying30
 unfold execOp
 rw [ho]
 simp only [h]
 match i, hi with
 | 0, _ => go_simp
 | 1, _ => go_simp
theorem x_ld22 {ad : Addr} {A : Option Addr} {n c : Nat} (ho : o.op = .load 22 (.tmp s)) (h : b.eval (.tmp s) = .pointer (some ad)) (hc : W.cell? ad = some (.slice A n c)) : (execOp b.eval o).run Try.prog W = .ok (.value (.slice A n c)) W := by
 unfold execOp
 rw [ho]
 simp only [h]
 go_simp
theorem x_lit22one {A : Option Addr} {n c : Nat} (ho : o.op = .buildSlice 22 1 #[(0, .tmp s)]) (h : b.eval (.tmp s) = .slice A n c) : (execOp b.eval o).run Try.prog W = .ok (.value (.slice (some ⟨W.heap.size, 0, none⟩) 1 1)) (W.alloc (.cells #[.slice A n c] 37)) := by
 have hu22 := Try.underlying22
 replace h := tm_eval h
 unfold execOp
 rw [ho]
 go_simp
theorem x_slhiA {A : Option Addr} {n c k : Nat} (ho : o.op = .slice 22 (.tmp s) none (some (.tmp s2)) none) (h : b.eval (.tmp s) = .slice A n c) (h2 : b.eval (.tmp s2) = .int .i64 k) (hk : k ≤ c) (hA : A = none → c = 0) : (execOp b.eval o).run Try.prog W = .ok (.value (.slice A k c)) W := by
 cases A with
 | some ad => exact x_slhi22 ho h h2 hk
 | none =>
  obtain rfl := hA rfl
  obtain rfl : k = 0 := by omega
  have hu22 := Try.underlying22
  replace h := tm_eval h
  replace h2 := tm_eval h2
  unfold execOp
  rw [ho]
  go_simp
theorem x_slloA {A : Option Addr} {n c k : Nat} (ho : o.op = .slice 22 (.tmp s) (some (.tmp s2)) none none) (h : b.eval (.tmp s) = .slice A n c) (h2 : b.eval (.tmp s2) = .int .i64 k) (hk : k ≤ n) (hc : n ≤ c) (hA : A = none → c = 0) : (execOp b.eval o).run Try.prog W = .ok (.value (.slice (A.map fun ad => if c = k then ad else ad.add k) (n - k) (c - k))) W := by
 cases A with
 | some ad => exact x_sllo22 ho h h2 hk hc
 | none =>
  obtain rfl := hA rfl
  obtain rfl : n = 0 := by omega
  obtain rfl : k = 0 := by omega
  have hu22 := Try.underlying22
  replace h := tm_eval h
  replace h2 := tm_eval h2
  unfold execOp
  rw [ho]
  go_simp
end
theorem GrowIn.empty {w w' : World} {g n : Nat} (h : GrowIn w w' g n) (hk : w.heap[g]? = some (.cells #[] 37 (0, 0))) : Below w.heap.size w w' := ⟨h.os, h.tape, h.output, h.size, fun k hk2 => by
 rcases h.block k hk2 with q | ⟨rfl, cs, cs', e1, e2, e3, e4, e5⟩
 ·exact q
 ·rw [hk] at e1
  cases e1
  simp at e5⟩
theorem owns_form {w : World} {base n : Nat} {v : Value} {xs : List Value} (h : w.ownsRow base 37 1 v n xs) (hB : ∀ k, v.ownBlock = some k → True) (hs : ∃ g, v.ownBlock = some g) : ∃ g cap cur, v = .slice (some ⟨g, 0, none⟩) n cap ∧ base ≤ g ∧ w.heap[g]? = some (.cells cur 37 (0, 0)) ∧ n ≤ cap ∧ cap ≤ maxLen ∧ cur.size = cap ∧ cur.toList.take n = xs := by
 rcases h.2 with ⟨rfl, h1⟩ | ⟨g, cap, cur, hv, hg, hk, h1, h2, h3, h4⟩
 ·obtain ⟨g, hg⟩ := hs; cases hg
 ·exact ⟨g, cap, cur, hv, hg, hk, h1, h2, by omega, by rw [← h4, Nat.mul_one]⟩
def ins_T : Bool × List (List Nat × List Nat) := (true, [([], []), ([], []), ([1], [1]), ([], []), ([2, 3], [2, 3]), ([0, 4], [0, 4]), ([], []), ([6], [6]), ([5, 7, 5], [5, 7]), ([], []), ([9], [9]), ([], []), ([10, 11], [10, 11]), ([8, 12, 8], [8, 12]), ([0, 1, 2, 3, 4, 5, 6, 7, 8, 9, 10, 11, 12, 13], []), ([14, 13, 13, 0, 1, 2, 3, 4, 5, 6, 7, 8, 9, 10, 11, 12, 13], [13, 14])])
theorem ins_tab : rtab .any (opsOf Try.f44 13) = ins_T := by kernel_rfl
def insL : List (Option Tmp) := [some 64, some 65, some 66, some 67, some 68, some 69, some 70, some 71, some 72, some 73, some 74, some 75, some 76, some 77, some 78, none]
set_option maxHeartbeats 4000000 in
set_option maxRecDepth 100000 in
theorem ins_region {a0 : Act} {w : World} {Q : Exit → Act → World → Prop} {id N n c k : Nat} {av : Int} {A A9 : Option Addr} {n9 c9 : Nat} {xs : List Value} (h4 : a0.eval (.tmp 4) = .pointer (some ⟨N, 0, none⟩)) (h6 : a0.eval (.tmp 6) = .slice A9 n9 c9) (h8 : a0.eval (.tmp 8) = .int .i64 k) (hs : a0.tmps.size = 80)
  (hN : w.heap[N]? = some (.cells #[.int .i64 av, .slice A n c] 30 (0, 0))) (hkn : k ≤ n) (hnc : n ≤ c) (hn : n ≤ 4096) (hA : A = none → c = 0) (hAq : ∀ ad, A = some ad → ∃ q, ad = ⟨q, 0, none⟩) (hxl : xs.length = n) (hcell : ∀ ad, A = some ad → ∀ (j : Nat) u, xs[j]? = some u → w.cell? (ad.add j) = some u) (h1 : ∀ u ∈ xs, u.oneCell' = true)
  (hK : ∀ (vals : Nat → Value) (v3 : Value) (W : World), W.ownsRow w.heap.size 37 1 v3 (n + 1) (xs.take k ++ [.slice A9 n9 c9] ++ xs.drop k) → Below w.heap.size w W → Q .normal (fillA vals (insL.take 15) a0) (W.setCell ⟨N, 1, none⟩ v3)) :
  (Code.region id (opsOf Try.f44 13) true).wp Try.prog Q a0 w := by
 have hNl : N < w.heap.size := lt_of_heap hN
 have hNW : ∀ W, Below w.drew.heap.size w.drew W → W.heap[N]? = some (.cells #[.int .i64 av, .slice A n c] 30 (0, 0)) := fun W hW => (hW.block N hNl).trans hN
 have hCW : ∀ W, Below w.drew.heap.size w.drew W → ∀ ad, A = some ad → ∀ (j : Nat) u, xs[j]? = some u → W.cell? (ad.add j) = some u := fun W hW ad hd j u hj => by
  have h0 := hcell ad hd j u hj
  exact (hW.cell (p := ad.add j) (World.block_lt_of_cell? w _ h0)).trans h0
 refine any_tail insL 80 15 [0, 0, 2, 0, 14, 31, 0, 64, 255, 0, 512, 0, 3584, 8191, 16383, 32767] [VP.lit0n w.heap.size, VP.eq (.pointer (some ⟨N, 1, none⟩)), VP.eq (.slice A n c), VP.eq (.int .i64 k), VP.eq (.slice A k c), VP.own w.heap.size k (xs.take k), VP.eq (.slice A9 n9 c9), VP.lit1 (.slice A9 n9 c9), VP.own w.heap.size (k + 1) (xs.take k ++ [.slice A9 n9 c9]), VP.eq (.pointer (some ⟨N, 1, none⟩)), VP.eq (.slice A n c), VP.eq (.int .i64 k), VP.eq (.slice (A.map fun ad => if c = k then ad else ad.add k) (n - k) (c - k)), VP.own w.heap.size (n + 1) (xs.take k ++ [.slice A9 n9 c9] ++ xs.drop k), VP.eq (.pointer (some ⟨N, 1, none⟩))] rfl ins_tab rfl hs (by kernel_rfl) rfl ⟨?_, ?_, ?_, ?_, ?_, ?_, ?_, ?_, ?_, ?_, ?_, ?_, ?_, ?_, ?_, trivial⟩ ?_
 ·intro bq W B hW hB hb hd K hK hK2 hK3; exact value_ wn_ rfl (x_lit22 rfl) (hK _ _ ⟨W.heap.size, rfl, hW.size, fun hq => absurd (hB _ hq).2 (Nat.lt_irrefl _), heap_alloc_new W _⟩ ((Below.refl _ _).alloc (Nat.le_refl _) _))
 ·intro bq W B hW hB hb hd K hK hK2 hK3; exact gd_step (C := true) wn_ (fun _ => x_fa30 rfl (of_decide_eq_true (by kernel_rfl)) ((hb 4).trans h4)) (hK _ W rfl (Below.refl _ _))
 ·intro bq W B hW hB hb hd K hK hK2 hK3; exact gd_step (C := true) wn_ (fun _ => x_ld22 rfl (hd 1 65) ((cell_at_heap (hNW W hW) 1).trans rfl)) (hK _ W rfl (Below.refl _ _))
 ·intro bq W B hW hB hb hd K hK hK2 hK3; exact gd_step (C := true) wn_ (fun _ => x_move rfl ((hb 8).trans h8)) (hK _ W rfl (Below.refl _ _))
 ·intro bq W B hW hB hb hd K hK hK2 hK3; exact gd_step (C := true) wn_ (fun _ => x_slhiA rfl (hd 2 66) (hd 3 67) (by omega) hA) (hK _ W rfl (Below.refl _ _))
 ·intro bq W B hW hB hb hd K hK hK2 hK3
  obtain ⟨g0, hv0, hg0, hB0, hk0⟩ : (VP.lit0n w.heap.size).p B W (bq.eval (.tmp 64)) := hd 0 64
  obtain ⟨v', w', hr, ho, hg, hat⟩ := app37 (base := w.heap.size) (n := 0) (cap := 0) hk0 rfl (Nat.le_refl _) (Nat.zero_le _) hg0 hW.size A k c (xs.take k) (by rw [List.length_take]; omega) (fun u hu => h1 u (List.mem_of_mem_take hu)) (fun e => ⟨by have := hA e; omega, hA e⟩) (fun ad hd2 j u hj => hCW W hW ad hd2 j u (by
   have hjk : j < k := by have := (List.getElem?_eq_some_iff.1 hj).1; rw [List.length_take] at this; omega
   rwa [List.getElem?_take_of_lt hjk] at hj)) (by omega)
  have hbe := hg.empty hk0
  rw [Nat.zero_add] at ho
  refine value_ wn_ rfl (x_app22 rfl hv0 (hd 4 68) hr) (hK _ _ ⟨?_, ho⟩ hbe)
  obtain ⟨g, cap, cur, hv, _⟩ := owns_form ho (fun _ _ => trivial) (by rcases hat with h | ⟨b, h, _⟩ <;> exact ⟨_, h⟩)
  refine ⟨g, cap, hv, fun hBg => ?_⟩
  rw [hv] at hat
  rcases hat with h | ⟨b, h, hb2⟩
  ·obtain rfl : g = g0 := Option.some.inj h
   exact hB0 hBg
  ·obtain rfl : g = b := Option.some.inj h
   have := (hB _ hBg).2
   omega
 ·intro bq W B hW hB hb hd K hK hK2 hK3; exact gd_step (C := true) wn_ (fun _ => x_move rfl ((hb 6).trans h6)) (hK _ W rfl (Below.refl _ _))
 ·intro bq W B hW hB hb hd K hK hK2 hK3; exact value_ wn_ rfl (x_lit22one rfl (hd 6 70)) (hK2 _ _ ⟨W.heap.size, rfl, .inr rfl, heap_alloc_new W _⟩ ((Below.refl _ _).alloc (Nat.le_refl _) _) (by show W.heap.size < (W.heap.push _).size; simp))
 ·intro bq W B hW hB hb hd K hK hK2 hK3
  obtain ⟨⟨g, cap, hv, hBg⟩, ho⟩ : (VP.own w.heap.size k (xs.take k)).p B W (bq.eval (.tmp 69)) := hd 5 69
  obtain ⟨g', cap', cur, hv', hbg, hk, hnc', hcm, hcz, htk⟩ := owns_form ho (fun _ _ => trivial) ⟨g, by rw [hv]; rfl⟩
  rw [hv] at hv'
  cases hv'
  obtain ⟨g7, hv7, hB7, hk7⟩ : (VP.lit1 (.slice A9 n9 c9)).p B W (bq.eval (.tmp 71)) := hd 7 71
  obtain ⟨v', w', hr, ho', hg, hat⟩ := app37 (base := w.heap.size) hk hcz hnc' hcm hbg hW.size (some ⟨g7, 0, none⟩) 1 1 [.slice A9 n9 c9] rfl (fun u hu => by rw [List.mem_singleton.1 hu]; rfl) (fun e => by cases e) (fun ad hd2 j u hj => by
   cases hd2
   rw [add_zero_off, cell_at_heap hk7]
   match j, hj with
   | 0, hj => simpa using hj
   | j + 1, hj => simp at hj) (by omega)
  rw [htk] at ho'
  refine value_ wn_ rfl (x_app22 rfl hv hv7 hr) (hK3 _ _ ⟨?_, ho'⟩ (hg.below hbg hW.size) (fun j t hj hne hcon hjt hp => ?_))
  ·obtain ⟨g2, cap2, cur2, hv2, _⟩ := owns_form ho' (fun _ _ => trivial) (by rcases hat with h | ⟨b, h, _⟩ <;> exact ⟨_, h⟩)
   refine ⟨g2, cap2, hv2, fun hBg2 => ?_⟩
   rw [hv2] at hat
   rcases hat with h | ⟨b, h, hb2⟩
   ·obtain rfl : g2 = g := Option.some.inj h
    exact hBg hBg2
   ·obtain rfl : g2 = b := Option.some.inj h
    have := (hB _ hBg2).2
    omega
  ·clear hK hK2 hK3 hd hb
   match j, hj, hne, hcon, hp with
   | 0, _, _, _, hp => exact VP.lit0n_grow hp hg
   | 1, _, _, _, hp => exact hp
   | 2, _, _, _, hp => exact hp
   | 3, _, _, _, hp => exact hp
   | 4, _, _, _, hp => exact hp
   | 5, _, _, _, hp => exact VP.own_grow hp hg (by omega)
   | 6, _, _, _, hp => exact hp
   | 7, _, _, _, hp => exact VP.lit1_grow hp hg hBg
   | 8, _, hne, _, _ => exact absurd rfl hne
   | 9, _, _, _, hp => exact hp
   | 10, _, _, _, hp => exact hp
   | 11, _, _, _, hp => exact hp
   | 12, _, _, _, hp => exact hp
   | 13, _, _, hcon, _ => exact absurd (hcon.symm.trans (show _ = true by kernel_rfl)) (by decide)
   | 14, _, _, _, hp => exact hp
   | j + 15, hj, _, _, _ => exact absurd hj (by omega)
 ·intro bq W B hW hB hb hd K hK hK2 hK3; exact gd_step (C := true) wn_ (fun _ => x_fa30 rfl (of_decide_eq_true (by kernel_rfl)) ((hb 4).trans h4)) (hK _ W rfl (Below.refl _ _))
 ·intro bq W B hW hB hb hd K hK hK2 hK3; exact gd_step (C := true) wn_ (fun _ => x_ld22 rfl (hd 9 73) ((cell_at_heap (hNW W hW) 1).trans rfl)) (hK _ W rfl (Below.refl _ _))
 ·intro bq W B hW hB hb hd K hK hK2 hK3; exact gd_step (C := true) wn_ (fun _ => x_move rfl ((hb 8).trans h8)) (hK _ W rfl (Below.refl _ _))
 ·intro bq W B hW hB hb hd K hK hK2 hK3; exact gd_step (C := true) wn_ (fun _ => x_slloA rfl (hd 10 74) (hd 11 75) hkn hnc hA) (hK _ W rfl (Below.refl _ _))
 ·intro bq W B hW hB hb hd K hK hK2 hK3
  obtain ⟨⟨g, cap, hv, hBg⟩, ho⟩ : (VP.own w.heap.size (k + 1) (xs.take k ++ [Value.slice A9 n9 c9])).p B W (bq.eval (.tmp 72)) := hd 8 72
  obtain ⟨g', cap', cur, hv', hbg, hk, hnc', hcm, hcz, htk⟩ := owns_form ho (fun _ _ => trivial) ⟨g, by rw [hv]; rfl⟩
  rw [hv] at hv'
  cases hv'
  obtain ⟨v', w', hr, ho', hg, hat⟩ := app37 (base := w.heap.size) hk hcz hnc' hcm hbg hW.size (A.map fun ad => if c = k then ad else ad.add k) (n - k) (c - k) (xs.drop k) (by rw [List.length_drop, hxl]) (fun u hu => h1 u (List.mem_of_mem_drop hu)) (fun e => by
    have hA2 := hA (by cases A with | none => rfl | some _ => cases e)
    omega) (fun ad hd2 j u hj => by
   cases A with
   | none => cases hd2
   | some ad0 =>
    have hjk : j < n - k := by have := (List.getElem?_eq_some_iff.1 hj).1; rw [List.length_drop] at this; omega
    obtain ⟨q, rfl⟩ := hAq _ rfl
    simp only [Option.map_some, Option.some.injEq] at hd2
    rw [if_neg (by omega), add_off] at hd2
    subst hd2
    rw [List.getElem?_drop] at hj
    have h9 := hCW W hW _ rfl (k + j) u hj
    rw [add_off] at h9 ⊢
    rw [show 0 + k + j = 0 + (k + j) by omega]
    exact h9) (by omega)
  rw [htk, show k + 1 + (n - k) = n + 1 by omega] at ho'
  refine value_ wn_ rfl (x_app22 rfl hv (hd 12 76) hr) (hK3 _ _ ⟨?_, ho'⟩ (hg.below hbg hW.size) (fun j t hj hne hcon hjt hp => ?_))
  ·obtain ⟨g2, cap2, cur2, hv2, _⟩ := owns_form ho' (fun _ _ => trivial) (by rcases hat with h | ⟨b, h, _⟩ <;> exact ⟨_, h⟩)
   refine ⟨g2, cap2, hv2, fun hBg2 => ?_⟩
   rw [hv2] at hat
   rcases hat with h | ⟨b, h, hb2⟩
   ·obtain rfl : g2 = g := Option.some.inj h
    exact hBg hBg2
   ·obtain rfl : g2 = b := Option.some.inj h
    have := (hB _ hBg2).2
    omega
  ·clear hK hK2 hK3 hd hb
   match j, hj, hne, hcon, hp with
   | 0, _, _, _, hp => exact VP.lit0n_grow hp hg
   | 1, _, _, _, hp => exact hp
   | 2, _, _, _, hp => exact hp
   | 3, _, _, _, hp => exact hp
   | 4, _, _, _, hp => exact hp
   | 5, _, _, _, hp => exact VP.own_grow hp hg (by omega)
   | 6, _, _, _, hp => exact hp
   | 7, _, _, _, hp => exact VP.lit1_grow hp hg hBg
   | 8, _, _, _, hp => exact VP.own_grow hp hg (by omega)
   | 9, _, _, _, hp => exact hp
   | 10, _, _, _, hp => exact hp
   | 11, _, _, _, hp => exact hp
   | 12, _, _, _, hp => exact hp
   | 13, _, hne, _, _ => exact absurd rfl hne
   | 14, _, _, _, hp => exact hp
   | j + 15, hj, _, _, _ => exact absurd hj (by omega)
 ·intro bq W B hW hB hb hd K hK hK2 hK3; exact gd_step (C := true) wn_ (fun _ => x_fa30 rfl (of_decide_eq_true (by kernel_rfl)) ((hb 4).trans h4)) (hK _ W rfl (Below.refl _ _))
 ·intro vals F W B hF hW hBB hV
  obtain ⟨⟨g3, cap3, hv3, _⟩, ho3⟩ : (VP.own w.heap.size (n + 1) (xs.take k ++ [Value.slice A9 n9 c9] ++ xs.drop k)).p B W (vals 77) := hV 13 77 (of_decide_eq_true (by kernel_rfl)) rfl
  have hf78 : vals 78 = .pointer (some ⟨N, 1, none⟩) := hV 14 78 (of_decide_eq_true (by kernel_rfl)) rfl
  have he77 : F.eval (.tmp 77) = .slice (some ⟨g3, 0, none⟩) (n + 1) cap3 := ((congrArg (fun q_ : Act => q_.eval (.tmp 77)) hF).trans (fillA_i (n := 80) (by kernel_rfl) hs (by kernel_rfl))).trans hv3
  have he78 : F.eval (.tmp 78) = .pointer (some ⟨N, 1, none⟩) := ((congrArg (fun q_ : Act => q_.eval (.tmp 78)) hF).trans (fillA_i (n := 80) (by kernel_rfl) hs (by kernel_rfl))).trans hf78
  have hk9 := hK vals (vals 77) W ho3 ((below_drew1 (Below.refl w.heap.size w)).trans hW)
  rw [← hF, hv3] at hk9
  have t77 := tm_eval he77
  have t78 := tm_eval he78
  have y1 := (cell_at_heap (hNW W hW) 1).trans (show _ = some (.slice A n c) from rfl)
  have z1 := frozen_at_heap (hNW W hW) 1
  clear hF hV hBB hK hNW hCW he77 he78 hf78 ho3 hv3
  refine wpList_plain rfl fun K hK9 => ?_
  unfold Oper.wp execOp
  go_simp
  exact hK9 _ _ hk9
def RwR (w : World) (base : Nat) (v : Value) (ls : List (List Int)) : Prop := ∃ xs, w.ownsRow base 37 1 v ls.length xs ∧ xs.length = ls.length ∧ ∀ (i : Nat) (u : Value) (l : List Int), xs[i]? = some u → ls[i]? = some l → Kd.R (Kd.int .i64) 3 w base (fun _ => True) u l
section
variable {w w1 : World} {base : Nat} {v : Value} {ls : List (List Int)}
theorem RwR.nil (w : World) (base : Nat) : RwR w base (.slice none 0 0) [] := ⟨[], ⟨rfl, .inl ⟨rfl, rfl⟩⟩, rfl, fun i u l h => by simp at h⟩
theorem RwR.below (h : RwR w base v ls) (hb : Below w.heap.size w w1) : RwR w1 base v ls := by
 obtain ⟨xs, h1, h2, h3⟩ := h
 exact ⟨xs, owns_below h1 hb, h2, fun i u l hu hl => Kd.R_below (h3 i u l hu hl) hb⟩
theorem RwR.set (h : RwR w base v ls) {g : Nat} {cells : Array Value} (hb : w.heap[g]? = some (.cells cells 30 (0, 0))) (j : Nat) (u : Value) : RwR (w.setCell ⟨g, j, none⟩ u) base v ls := by
 obtain ⟨xs, ⟨h0, h1⟩, h2, h3⟩ := h
 refine ⟨xs, ⟨h0, ?_⟩, h2, fun i u l hu hl => Kd.R_set (h3 i u l hu hl) hb (by decide) j _⟩
 rcases h1 with h1 | ⟨q, cap, cur, rfl, hg, hk, r⟩
 ·exact .inl h1
 ·refine .inr ⟨q, cap, cur, rfl, hg, ?_, r⟩
  rw [Below.heap_setCell w ⟨g, j, none⟩ u q (fun e => by have e2 : q = g := e; rw [e2, hb] at hk; cases hk)]
  exact hk
theorem RwR.form (h : RwR w base v ls) : ∃ (A : Option Addr) (c : Nat) (xs : List Value), v = .slice A ls.length c ∧ ls.length ≤ c ∧ (A = none → c = 0) ∧ (∀ ad, A = some ad → ∃ q, ad = ⟨q, 0, none⟩) ∧ xs.length = ls.length ∧ (∀ ad, A = some ad → ∀ (j : Nat) u, xs[j]? = some u → w.cell? (ad.add j) = some u) ∧ (0 < ls.length → ∃ ad, A = some ad) ∧ (∀ (i : Nat) (u : Value) (l : List Int), xs[i]? = some u → ls[i]? = some l → Kd.R (Kd.int .i64) 3 w base (fun _ => True) u l) := by
 obtain ⟨xs, ho, h2, h3⟩ := h
 rcases ho.2 with ⟨rfl, h0⟩ | ⟨q, cap, cur, rfl, hg, hk, h4, h5, h6, h7⟩
 ·exact ⟨none, 0, xs, by rw [h0], by omega, fun _ => rfl, (fun ad h => by cases h), h2, (fun ad h => by cases h), (fun h => by omega), h3⟩
 ·refine ⟨_, cap, xs, rfl, h4, (fun h => by cases h), (fun ad h => by cases h; exact ⟨q, rfl⟩), h2, fun ad hd j u hj => ?_, fun _ => ⟨_, rfl⟩, h3⟩
  cases hd
  rw [add_zero_off, cell_at_heap hk]
  have hjl : j < ls.length := by have := (List.getElem?_eq_some_iff.1 hj).1; omega
  rw [← h7, Nat.mul_one, List.getElem?_take_of_lt hjl] at hj
  simpa using hj
theorem RwR.reads (h : RwR w base v ls) : ∃ A c, v = .slice A ls.length c ∧ ls.length ≤ c ∧ Kd.C (Kd.slice 3 (Kd.int .i64)) w A ls.length ls := by
 obtain ⟨xs, ho, h2, h3⟩ := h
 exact Rws.reads (w0 := w) ⟨xs, ho, h2, fun i l hl => by
  have hi : i < xs.length := by rw [h2]; exact (List.getElem?_eq_some_iff.1 hl).1
  obtain ⟨A, c, e, hc, hC⟩ := Kd.R_reads (h3 i _ l (List.getElem?_eq_getElem hi) hl)
  exact ⟨A, c, by rw [List.getElem?_eq_getElem hi, e], hc, hC⟩⟩ (Below.refl _ _)
end
def insU (x : List Int) : List (List Int) → List (List Int)
 | [] => [x]
 | y :: r => if cmpL y x < 0 then y :: insU x r else if y = x then y :: r else x :: y :: r
def nrmS : List (List Int) → List (List Int) → List (List Int)
 | [], o => o
 | c :: cs, o => nrmS cs (if oppB (insAll c []) = true then o else insU (insAll c []) o)
theorem insU_len (x : List Int) : ∀ l, (insU x l).length ≤ l.length + 1
 | [] => by simp [insU]
 | y :: r => by
  rw [insU]
  have := insU_len x r
  split
  ·simp; omega
  ·split <;> simp
theorem insU_in {x : List Int} (hx : ∀ z ∈ x, inR z) : ∀ l : List (List Int), (∀ c ∈ l, ∀ z ∈ c, inR z) → ∀ c ∈ insU x l, ∀ z ∈ c, inR z
 | [], _ => by intro c hc; rw [insU, List.mem_singleton] at hc; subst hc; exact hx
 | y :: r, h => by
  intro c hc
  rw [insU] at hc
  split at hc
  ·rcases List.mem_cons.1 hc with rfl | hc
   ·exact h _ List.mem_cons_self
   ·exact insU_in hx r (fun c hc => h c (List.mem_cons_of_mem _ hc)) c hc
  ·split at hc
   ·exact h c hc
   ·rcases List.mem_cons.1 hc with rfl | hc
    ·exact hx
    ·exact h c hc
def spec_NormalCnf.f (k : Nat) (a0_0 : Int) (l0_1 : List (List Int)) : Option (Int × List (List Int) × Int) :=
 (spec_CnfOK.f k a0_0 l0_1).bind fun b => if b = true then (if l0_1.length ≤ 4000 ∧ (∀ c ∈ l0_1, c.length ≤ 4096 ∧ ∀ x ∈ c, inR x) then some (a0_0, nrmS l0_1 [], 0) else none) else some (0, [], 1)
theorem pair_append {P : Value → List Int → Prop} {xs ys : List Value} {ls ms : List (List Int)} (hl : xs.length = ls.length) (h1 : ∀ (i : Nat) (u : Value) (l : List Int), xs[i]? = some u → ls[i]? = some l → P u l) (h2 : ∀ (i : Nat) (u : Value) (l : List Int), ys[i]? = some u → ms[i]? = some l → P u l) :
  ∀ (i : Nat) (u : Value) (l : List Int), (xs ++ ys)[i]? = some u → (ls ++ ms)[i]? = some l → P u l := by
 intro i u l hu hm
 by_cases hi : i < xs.length
 ·rw [List.getElem?_append_left hi] at hu
  rw [List.getElem?_append_left (by omega)] at hm
  exact h1 i u l hu hm
 ·rw [List.getElem?_append_right (by omega)] at hu
  rw [List.getElem?_append_right (by omega), ← hl] at hm
  exact h2 _ u l hu hm
theorem RwR.ins {W : World} {base b : Nat} {v3 u9 : Value} {xs : List Value} {ls : List (List Int)} {x : List Int} {kk : Nat} (hxl : xs.length = ls.length) (hkk : kk ≤ ls.length) (hR : ∀ (i : Nat) (u : Value) (l : List Int), xs[i]? = some u → ls[i]? = some l → Kd.R (Kd.int .i64) 3 W base (fun _ => True) u l)
  (h9 : Kd.R (Kd.int .i64) 3 W base (fun _ => True) u9 x) (ho : W.ownsRow b 37 1 v3 (ls.length + 1) (xs.take kk ++ [u9] ++ xs.drop kk)) (hb : base ≤ b) : RwR W base v3 (ls.take kk ++ [x] ++ ls.drop kk) := by
 have hn : (ls.take kk ++ [x] ++ ls.drop kk).length = ls.length + 1 := by simp only [List.length_append, List.length_take, List.length_drop, List.length_cons, List.length_nil]; omega
 refine ⟨xs.take kk ++ [u9] ++ xs.drop kk, by rw [hn]; exact own_weaken ho hb, by rw [hn]; simp only [List.length_append, List.length_take, List.length_drop, List.length_cons, List.length_nil]; omega, ?_⟩
 refine pair_append (by simp only [List.length_append, List.length_take, List.length_cons, List.length_nil]; omega) (pair_append (by simp only [List.length_take]; omega) ?_ ?_) ?_
 ·intro i u l hu hl
  have hi : i < kk := by have := (List.getElem?_eq_some_iff.1 hu).1; rw [List.length_take] at this; omega
  rw [List.getElem?_take_of_lt hi] at hu hl
  exact hR i u l hu hl
 ·intro i u l hu hl
  match i, hu, hl with
  | 0, hu, hl =>
   obtain rfl : u9 = u := by simpa using hu
   obtain rfl : x = l := by simpa using hl
   exact h9
  | i + 1, hu, _ => simp at hu
 ·intro i u l hu hl
  rw [List.getElem?_drop] at hu hl
  exact hR _ u l hu hl
set_option maxHeartbeats 3000000 in
set_option maxRecDepth 100000 in
theorem spec_NormalCnf.calls (k : Nat) (a0_0 : Int) (A0_1 : Option Addr) (c0_1 : Nat) (l0_1 : List (List Int)) (r1 : Int) (r2 : List (List Int)) (r3 : Int) (w : World) (hr0_1 : Kd.C (Kd.slice 3 (Kd.int .i64)) w A0_1 l0_1.length l0_1) (hc0_1 : l0_1.length ≤ c0_1) (h : spec_NormalCnf.f k a0_0 l0_1 = some (r1, r2, r3)) :
  Calls Try.prog 44 #[.agg #[.int .i64 a0_0, .slice A0_1 l0_1.length c0_1]] w fun e w' => ∃ v1_ : Value, e = .returned (.tuple #[.agg #[.int .i64 r1, v1_], .int .i64 r3]) ∧ RwR w' w.heap.size v1_ r2 ∧ Below w.heap.size w w' := by
 have hu30 := Try.underlying30
 unfold spec_NormalCnf.f at h
 obtain ⟨bc, hbc, h⟩ := Option.bind_eq_some_iff.1 h
 have HR0 := Aside0.mk hr0_1
 have HC0 := Aside0.mk hc0_1
 have hcnf := fun W (hV : Kd.C (Kd.slice 3 (Kd.int .i64)) W A0_1 l0_1.length l0_1) => spec_CnfOK.calls k a0_0 A0_1 c0_1 l0_1 bc W hV hc0_1 hbc
 clear hr0_1 hc0_1 hbc
 obtain ⟨g, hg⟩ : ∃ g, w.heap.size = g := ⟨_, rfl⟩
 go_enter Try.func44, Try.ntmps44
 go_upto_region 1 with fail
 have hb2 : Below w.heap.size w ((w.alloc (.cells #[.int .i64 a0_0, .slice A0_1 l0_1.length c0_1] 30)).alloc (.cells #[.int .i64 0, .slice none 0 0] 30)) := below_alloc (below_alloc (Below.refl _ _) _) _
 have k1 : ((w.alloc (.cells #[.int .i64 a0_0, .slice A0_1 l0_1.length c0_1] 30)).alloc (.cells #[.int .i64 0, .slice none 0 0] 30)).heap[g]? = some (.cells #[.int .i64 a0_0, .slice A0_1 l0_1.length c0_1] 30 (0, 0)) := by rw [← hg]; exact blk_alloc (blk_new w _) _
 have k2 : ((w.alloc (.cells #[.int .i64 a0_0, .slice A0_1 l0_1.length c0_1] 30)).alloc (.cells #[.int .i64 0, .slice none 0 0] 30)).heap[g + 1]? = some (.cells #[.int .i64 0, .slice none 0 0] 30 (0, 0)) := by
  have := blk_new (w.alloc (.cells #[.int .i64 a0_0, .slice A0_1 l0_1.length c0_1] 30)) (.cells #[.int .i64 0, .slice none 0 0] 30)
  rwa [show (w.alloc (.cells #[.int .i64 a0_0, .slice A0_1 l0_1.length c0_1] 30)).heap.size = g + 1 by rw [← hg]; show (w.heap.push _).size = _; simp] at this
 generalize (w.alloc (.cells #[.int .i64 a0_0, .slice A0_1 l0_1.length c0_1] 30)).alloc (.cells #[.int .i64 0, .slice none 0 0] 30) = w2 at hb2 k1 k2 ⊢
 have x0 := (blk_cell k1 0).trans (show _ = some (.int .i64 a0_0) from rfl)
 have x1 := (blk_cell k1 1).trans (show _ = some (.slice A0_1 l0_1.length c0_1) from rfl)
 have hcall := hcnf w2 (Kd.C_below HR0.out hb2)
 have HB2 := Aside0.mk hb2
 have HK1 := Aside0.mk k1
 have HK2 := Aside0.mk k2
 clear hcnf hb2 k1 k2
 cases bc with
 | false =>
  rw [if_neg (by decide)] at h
  cases h
  go_upto_region 2 with (go_at_call 49; refine hcall.mono ?_; rintro e w3 ⟨rfl, hb3⟩; have HB3 := Aside0.mk (HB2.out.trans (hb3.mono HB2.out.size)); have HK23 := Aside0.mk (blk_below HK2.out hb3); clear hb3)
  clear x0 x1 hcall
  have y0 := (blk_cell HK23.out 0).trans (show _ = some (.int .i64 0) from rfl)
  have y1 := (blk_cell HK23.out 1).trans (show _ = some (.slice none 0 0) from rfl)
  have z0 := blk_frozen HK23.out 0
  have z1 := blk_frozen HK23.out 1
  go_wp2
  have hz := heap_set (j := 1) (u := .slice none 0 0) (heap_set (j := 0) (u := .int .i64 0) HK23.out)
  have HG := Aside0.mk (show w.heap.size ≤ g + 1 by omega)
  (try simp only [Exit.inBlock, Exit.then])
  refine bodyPost_ret (results_ct rfl _ _ (g + 1) 30 #[.int .i64 0, .slice none 0 0] (0, 0) _ rfl hz Try.underlying30 rfl (by kernel_rfl)) rfl ?_
  exact ⟨_, rfl, RwR.nil _ _, (HB3.out.setCell (p := ⟨g + 1, 0, none⟩) HG.out _).setCell (p := ⟨g + 1, 1, none⟩) HG.out _⟩
 | true =>
  rw [if_pos rfl] at h
  by_cases hok : l0_1.length ≤ 4000 ∧ (∀ c ∈ l0_1, c.length ≤ 4096 ∧ ∀ x ∈ c, inR x)
  rotate_left
  ·rw [if_neg hok] at h; cases h
  rw [if_pos hok] at h
  have HOK := Aside0.mk hok
  clear hok
  cases h
  go_upto_region 3 with (go_at_call 49; refine hcall.mono ?_; rintro e w3 ⟨rfl, hb3⟩; have HB3 := Aside0.mk (HB2.out.trans (hb3.mono HB2.out.size)); have HK13 := Aside0.mk (blk_below HK1.out hb3); have HK23 := Aside0.mk (blk_below HK2.out hb3); clear hb3)
  clear x0 x1 hcall
  have y0 := (blk_cell HK13.out 0).trans (show _ = some (.int .i64 a0_0) from rfl)
  go_upto_region 4 with ((with_reducible refine gate_dst (N := 4) rfl ?_); refine box_event ?hg (N := 4) ?hd (cs := #[.int .i64 0, .slice none 0 0]) (t := 30) ?hr ?_; (case hd => rfl); (case hg => rfl); (case hr => first | (go_simp; done) | (go_simp; rfl)); intro N hN w4 hbox hb4; have HB4 := Aside0.mk (HB3.out.trans (hb4.mono HB3.out.size)); have HK14 := Aside0.mk (blk_below HK13.out hb4); have HK24 := Aside0.mk (blk_below HK23.out hb4); have HN4 := Aside0.mk hbox; have HNs := Aside0.mk (show w.heap.size ≤ N ∧ g + 1 < N from ⟨by rw [hN]; exact HB3.out.size, by rw [hN]; exact blk_lt HK23.out⟩); have n0 := (blk_cell hbox 0).trans (show _ = some (.int .i64 0) from rfl); have n1 := (blk_cell hbox 1).trans (show _ = some (.slice none 0 0) from rfl); have m0 := blk_frozen hbox 0; have m1 := blk_frozen hbox 1; clear hN hbox hb4 y0 HB3 HK13 HK23)
  have hz := heap_set (j := 1) (u := .slice none 0 0) (heap_set (j := 0) (u := .int .i64 a0_0) HN4.out)
  have HZ := Aside0.mk (show ((w4.setCell ⟨N, 0, none⟩ (.int .i64 a0_0)).setCell ⟨N, 1, none⟩ (.slice none 0 0)).heap[N]? = some (.cells #[.int .i64 a0_0, .slice none 0 0] 30 (0, 0)) from hz)
  have hfar : ∀ k o, k ≠ N → w4.heap[k]? = some o → ((w4.setCell ⟨N, 0, none⟩ (.int .i64 a0_0)).setCell ⟨N, 1, none⟩ (.slice none 0 0)).heap[k]? = some o := fun k o hne hk => by
   rw [Below.heap_setCell _ ⟨N, 1, none⟩ _ k hne, Below.heap_setCell _ ⟨N, 0, none⟩ _ k hne]; exact hk
  have HK1 := Aside0.mk (hfar g _ (by have := HNs.out; omega) HK14.out)
  have HK2 := Aside0.mk (hfar (g + 1) _ (by have := HNs.out; omega) HK24.out)
  have HB := Aside0.mk ((HB4.out.setCell (p := ⟨N, 0, none⟩) HNs.out.1 (.int .i64 a0_0)).setCell (p := ⟨N, 1, none⟩) HNs.out.1 (.slice none 0 0))
  clear hz hfar n0 n1 m0 m1 HB4 HK14 HK24 HN4
  generalize (w4.setCell ⟨N, 0, none⟩ (.int .i64 a0_0)).setCell ⟨N, 1, none⟩ (.slice none 0 0) = w5 at HZ HK1 HK2 HB ⊢
  go_wp2
  have hmax : l0_1.length ≤ 4000 := HOK.out.1
  go_loopg [5, 6, 7, 8] l0_1.length (fun gg v5 v6 v7 v8 wr => ∃ (i : Nat) (v : Value) (ls : List (List Int)), v5 = .int .i64 i ∧ i ≤ l0_1.length ∧ l0_1.length - i ≤ gg ∧ Aside0 (nrmS l0_1 [] = nrmS (l0_1.drop i) ls) ∧ Aside0 (ls.length ≤ i) ∧ Aside0 (∀ c ∈ ls, ∀ z ∈ c, inR z) ∧ Aside0 (RwR wr w.heap.size v ls) ∧ Aside0 (wr.heap[N]? = some (.cells #[.int .i64 a0_0, v] 30 (0, 0))) ∧ Aside0 (wr.heap[g]? = some (.cells #[.int .i64 a0_0, .slice A0_1 l0_1.length c0_1] 30 (0, 0))) ∧ Aside0 (wr.heap[g + 1]? = some (.cells #[.int .i64 0, .slice none 0 0] 30 (0, 0))) ∧ Aside0 (Below w.heap.size w wr))
  case atStart => exact ⟨0, _, [], rfl, Nat.zero_le _, by omega, ⟨rfl⟩, ⟨Nat.le_refl _⟩, ⟨fun c hc => by simp at hc⟩, ⟨RwR.nil _ _⟩, HZ, HK1, HK2, HB⟩
  case round =>
   clear HZ HK1 HK2 HB
   obtain ⟨i, v, ls, rfl, hi, hgk, HS, HL, HI, HO, HZ, HK1, HK2, HB⟩ := hrel
   have y1 := (blk_cell HK1.out 1).trans (show _ = some (.slice A0_1 l0_1.length c0_1) from rfl)
   obtain ⟨Av, cv, -, rfl, -⟩ := HO.out.form
   by_cases hlt : i < l0_1.length
   ·have hltz : (i : Int) < (l0_1.length : Int) := by omega
    have h0z : (0 : Int) ≤ (i : Int) := by omega
    obtain ⟨ad, A2, c2, ea, hw0, hlc2, hC2⟩ := at_L1 HR0.out (i : Int) h0z hltz
    subst ea
    have hrd : rd_L1 l0_1 (i : Int) = l0_1[i] := by unfold rd_L1; simp [List.getD, hlt]
    rw [Int.toNat_natCast, hrd] at hw0
    rw [hrd] at hlc2 hC2
    have ew : IntKind.i64.wrap ((i : Int) + 1) = ((i + 1 : Nat) : Int) := IntWalk.i64_in _ (by omega)
    have hx0 := (HB.out.cell (World.block_lt_of_cell? w _ hw0)).trans hw0
    have hci := HOK.out.2 _ (List.getElem_mem hlt)
    have hsrt := spec_l01Sorted.calls A2 c2 l0_1[i] _ _ wr (Kd.C_below hC2 HB.out) hlc2 (show spec_l01Sorted.f l0_1[i] = some (insAll l0_1[i] [], !(oppB (insAll l0_1[i] []))) from if_pos hci)
    have HXI := Aside0.mk (insAll_inR l0_1[i] [] hci.2 (fun x hx => by simp at hx))
    have hst := HS.out
    rw [List.drop_eq_getElem_cons hlt, nrmS] at hst
    have HST := Aside0.mk hst
    clear hw0 hC2 hlc2 hrd hci hst HS
    generalize insAll l0_1[i] [] = x at hsrt HXI HST
    generalize l0_1[i] = x0 at hsrt hx0
    go_upto_region 8 with (go_at_call 82; refine hsrt.mono ?_; rintro e w6 ⟨v9, rfl, hR9, hb⟩; clear hsrt; have HB6 := Aside0.mk (HB.out.trans (hb.mono HB.out.size)); have HR9 := Aside0.mk (Kd.R_lower hR9 HB.out.size); have HO6 := Aside0.mk (HO.out.below hb); have HZ6 := Aside0.mk (blk_below HZ.out hb); have HK16 := Aside0.mk (blk_below HK1.out hb); have HK26 := Aside0.mk (blk_below HK2.out hb); clear hb hR9 HZ HK2 HK1 HB HO)
    obtain ⟨A9, c9, rfl, hc9, hC9⟩ := Kd.R_reads HR9.out
    have HC9 := Aside0.mk (And.intro hC9 hc9)
    clear hC9 hc9 hx0 y1
    cases hop : oppB x with
    | true =>
     rw [hop, if_pos rfl] at HST
     clear hop
     go_wp2
     go_roundg (gk - 1)
     case measure => omega
     case rel => exact ⟨i + 1, _, ls, rfl, by omega, by omega, HST, ⟨Nat.le_succ_of_le HL.out⟩, HI, HO6, HZ6, HK16, HK26, HB6⟩
    | false =>
     rw [hop, if_neg (by decide)] at HST
     clear hop
     obtain ⟨Av', cv', xs', hv, hlc, hAn, hAq, hxl, hxc, hpos, hxR⟩ := HO6.out.form
     cases hv
     have HF := Aside0.mk (And.intro hlc (And.intro hAn (And.intro hAq (And.intro hxl hpos))))
     have HXC := Aside0.mk hxc
     have HXR := Aside0.mk hxR
     have HX1 : Aside0 (∀ u ∈ xs', u.oneCell' = true) := ⟨fun u hu => by
      obtain ⟨j, hj⟩ := List.mem_iff_getElem?.1 hu
      have hjl : j < ls.length := by have := (List.getElem?_eq_some_iff.1 hj).1; omega
      obtain ⟨A, c, e, _⟩ := Kd.R_reads (hxR j u ls[j] hj (List.getElem?_eq_getElem hjl))
      rw [e]
      rfl⟩
     clear hlc hAn hAq hxl hxc hpos hxR
     go_wp2
     obtain ⟨gk0, hgk0⟩ : ∃ m, gk = m := ⟨_, rfl⟩
     rw [hgk0] at hgk
     go_loopg [8] ls.length (fun gg v8 wr2 => ∃ (kk : Nat), v8 = .int .i64 kk ∧ kk ≤ ls.length ∧ ls.length - kk ≤ gg ∧ Aside0 (insU x ls = ls.take kk ++ insU x (ls.drop kk)) ∧ Aside0 (Below w6.heap.size w6 wr2))
     case atStart => exact ⟨0, rfl, Nat.zero_le _, by omega, ⟨rfl⟩, ⟨Below.refl _ _⟩⟩
     case round =>
      obtain ⟨kk, rfl, hkk, hgk2, HIU, HBr⟩ := hrel
      have y1 := (blk_cell (blk_below HZ6.out HBr.out) 1).trans (show _ = some (.slice Av ls.length cv) from rfl)
      by_cases hlk : kk < ls.length
      ·have hlkz : (kk : Int) < (ls.length : Int) := by omega
       have h0k : (0 : Int) ≤ (kk : Int) := by omega
       have ewk : IntKind.i64.wrap ((kk : Int) + 1) = ((kk + 1 : Nat) : Int) := IntWalk.i64_in _ (by have := HL.out; omega)
       obtain ⟨ad2, rfl⟩ := HF.out.2.2.2.2 (by omega)
       have hxk : kk < xs'.length := by rw [HF.out.2.2.2.1]; exact hlk
       obtain ⟨A3, c3, e3, hc3, hC3⟩ := Kd.R_reads (HXR.out kk _ ls[kk] (List.getElem?_eq_getElem hxk) (List.getElem?_eq_getElem hlk))
       have y2 := HXC.out ad2 rfl kk _ (List.getElem?_eq_getElem hxk)
       rw [e3] at y2
       have y3 := (HBr.out.cell (World.block_lt_of_cell? w6 _ y2)).trans y2
       obtain ⟨kq, hkq⟩ := less_is ls[kk] x (Kd.C_max hC3) (HI.out _ (List.getElem_mem hlk)) HXI.out
       obtain ⟨ks, hks⟩ := same_is ls[kk] x (Kd.C_max hC3)
       have hless := spec_l01Less.calls kq A3 c3 ls[kk] A9 c9 x _ wr (Kd.C_below hC3 HBr.out) hc3 (Kd.C_below HC9.out.1 HBr.out) HC9.out.2 hkq
       have hsame := fun W (hW : Below w6.heap.size w6 W) => spec_l01Same.calls ks A3 c3 ls[kk] A9 c9 x _ W (Kd.C_below hC3 hW) hc3 (Kd.C_below HC9.out.1 hW) HC9.out.2 hks
       have hiu := HIU.out
       rw [List.drop_eq_getElem_cons hlk, insU] at hiu
       clear e3 y2 hkq hks hC3 hc3 hxk
       generalize hyd : ls[kk] = y at y3 hless hsame hiu
       by_cases hlt2 : cmpL y x < 0
       ·rw [if_pos hlt2] at hiu
        rw [decide_eq_true hlt2] at hless
        have HIU2 := Aside0.mk hiu
        have HYD := Aside0.mk hyd
        clear hiu hlt2 hsame hyd
        go_wp2_with (go_at_call 89; refine hless.mono ?_; rintro e w7 ⟨rfl, hb⟩; clear hless; have HB7 := Aside0.mk (HBr.out.trans (hb.mono HBr.out.size)); clear hb y1 y3)
        go_roundg (gk - 1)
        case measure => omega
        case rel =>
         refine ⟨kk + 1, rfl, by omega, by omega, ⟨?_⟩, HB7⟩
         rw [HIU2.out, List.take_succ_eq_append_getElem hlk, HYD.out, List.append_assoc]
         rfl
       ·rw [if_neg hlt2] at hiu
        rw [decide_eq_false hlt2] at hless
        clear hlt2
        have HYD := Aside0.mk hyd
        clear hyd
        go_upto_region 12 with (go_at_call 89; refine hless.mono ?_; rintro e w7 ⟨rfl, hb⟩; clear hless; have HB7 := Aside0.mk (HBr.out.trans (hb.mono HBr.out.size)); have y4 := (hb.cell (World.block_lt_of_cell? wr _ y3)).trans y3; have y5 := (hb.cell (World.block_lt_of_cell? wr _ y1)).trans y1; have hsame2 := hsame w7 HB7.out; clear hb y1 y3 HBr hsame)
        by_cases he : y = x
        ·rw [if_pos he] at hiu
         rw [decide_eq_true he] at hsame2
         have HIU2 := Aside0.mk hiu
         clear hiu he
         go_wp2_with (go_at_call 90; refine hsame2.mono ?_; rintro e w8 ⟨rfl, hdr⟩; clear hsame2; have HB8 := Aside0.mk (HB7.out.trans (hdr.below.mono HB7.out.size)); clear hdr y4 y5)
         go_roundg (gk0 - 1)
         case measure => omega
         case rel =>
          refine ⟨i + 1, _, ls, rfl, by omega, by omega, ⟨?_⟩, ⟨Nat.le_succ_of_le HL.out⟩, HI, ⟨HO6.out.below HB8.out⟩, ⟨blk_below HZ6.out HB8.out⟩, ⟨blk_below HK16.out HB8.out⟩, ⟨blk_below HK26.out HB8.out⟩, ⟨HB6.out.trans (HB8.out.mono HB6.out.size)⟩⟩
          rw [HST.out, HIU2.out, ← HYD.out, ← List.drop_eq_getElem_cons hlk, List.take_append_drop]
        ·rw [if_neg he] at hiu
         rw [decide_eq_false he] at hsame2
         have hins : insU x ls = ls.take kk ++ [x] ++ ls.drop kk := by
          rw [hiu, List.drop_eq_getElem_cons hlk, HYD.out, List.append_assoc]
          rfl
         clear hiu he
         go_upto_region 13 with (go_at_call 90; refine hsame2.mono ?_; rintro e w8 ⟨rfl, hdr⟩; clear hsame2; have HBr := Aside0.mk (HB7.out.trans (hdr.below.mono HB7.out.size)); clear hdr y4 y5)
         have hxcW := fun ad hd j u hj => (HBr.out.cell (p := Addr.add ad j) (World.block_lt_of_cell? _ _ (HXC.out ad hd j u hj))).trans (HXC.out ad hd j u hj)
         refine ins_region (N := N) (av := a0_0) (A := _) (c := cv) (n := ls.length) (k := _) (A9 := A9) (n9 := x.length) (c9 := c9) (xs := xs') rfl rfl rfl rfl (blk_below HZ6.out HBr.out) (Nat.le_of_lt hlk) HF.out.1 (by have := HL.out; omega) HF.out.2.1 HF.out.2.2.1 HF.out.2.2.2.1 hxcW HX1.out ?_
         intro vals v3 W5 ho5 hb5
         have HB5 := Aside0.mk (HBr.out.trans (hb5.mono HBr.out.size))
         have HO5 := Aside0.mk (RwR.ins HF.out.2.2.2.1 (Nat.le_of_lt hlk) (fun i u l hu hl => Kd.R_below (HXR.out i u l hu hl) HB5.out) (Kd.R_below HR9.out HB5.out) ho5 (Nat.le_trans HB6.out.size HBr.out.size))
         have HIN := Aside0.mk hins
         clear hxcW ho5 hb5 hins
         simp only [insL, List.take, fillA, Act.put, List.setIfInBounds_toArray, List.set_cons_zero, List.set_cons_succ]
         go_wp2
         go_roundg (gk0 - 1)
         case measure => omega
         case rel =>
          refine ⟨i + 1, v3, insU x ls, rfl, by omega, by omega, HST, ⟨Nat.le_trans (insU_len x ls) (Nat.succ_le_succ HL.out)⟩, ⟨insU_in HXI.out ls HI.out⟩, ⟨?_⟩, ⟨heap_set (blk_below HZ6.out HB5.out)⟩, ⟨?_⟩, ⟨?_⟩, ⟨(HB6.out.trans (HB5.out.mono HB6.out.size)).setCell (p := ⟨N, 1, none⟩) HNs.out.1 _⟩⟩
          ·rw [HIN.out]
           exact HO5.out.set (blk_below HZ6.out HB5.out) 1 _
          ·rw [Below.heap_setCell _ ⟨N, 1, none⟩ _ g (by have := HNs.out; show g ≠ N; omega)]
           exact blk_below HK16.out HB5.out
          ·rw [Below.heap_setCell _ ⟨N, 1, none⟩ _ (g + 1) (by have := HNs.out; show g + 1 ≠ N; omega)]
           exact blk_below HK26.out HB5.out
      ·obtain rfl : kk = ls.length := by omega
       have hins : insU x ls = ls.take ls.length ++ [x] ++ ls.drop ls.length := by
        have := HIU.out
        rw [List.drop_length] at this ⊢
        rw [List.append_nil]
        exact this
       go_upto_region 13 with fail
       clear y1
       have hxcW := fun ad hd j u hj => (HBr.out.cell (p := Addr.add ad j) (World.block_lt_of_cell? _ _ (HXC.out ad hd j u hj))).trans (HXC.out ad hd j u hj)
       refine ins_region (N := N) (av := a0_0) (A := _) (c := cv) (n := ls.length) (k := _) (A9 := A9) (n9 := x.length) (c9 := c9) (xs := xs') rfl rfl rfl rfl (blk_below HZ6.out HBr.out) (Nat.le_refl _) HF.out.1 (by have := HL.out; omega) HF.out.2.1 HF.out.2.2.1 HF.out.2.2.2.1 hxcW HX1.out ?_
       intro vals v3 W5 ho5 hb5
       have HB5 := Aside0.mk (HBr.out.trans (hb5.mono HBr.out.size))
       have HO5 := Aside0.mk (RwR.ins HF.out.2.2.2.1 (Nat.le_refl _) (fun i u l hu hl => Kd.R_below (HXR.out i u l hu hl) HB5.out) (Kd.R_below HR9.out HB5.out) ho5 (Nat.le_trans HB6.out.size HBr.out.size))
       have HIN := Aside0.mk hins
       clear hxcW ho5 hb5 hins
       simp only [insL, List.take, fillA, Act.put, List.setIfInBounds_toArray, List.set_cons_zero, List.set_cons_succ]
       go_wp2
       go_roundg (gk0 - 1)
       case measure => omega
       case rel =>
        refine ⟨i + 1, v3, insU x ls, rfl, by omega, by omega, HST, ⟨Nat.le_trans (insU_len x ls) (Nat.succ_le_succ HL.out)⟩, ⟨insU_in HXI.out ls HI.out⟩, ⟨?_⟩, ⟨heap_set (blk_below HZ6.out HB5.out)⟩, ⟨?_⟩, ⟨?_⟩, ⟨(HB6.out.trans (HB5.out.mono HB6.out.size)).setCell (p := ⟨N, 1, none⟩) HNs.out.1 _⟩⟩
        ·rw [HIN.out]
         exact HO5.out.set (blk_below HZ6.out HB5.out) 1 _
        ·rw [Below.heap_setCell _ ⟨N, 1, none⟩ _ g (by have := HNs.out; show g ≠ N; omega)]
         exact blk_below HK16.out HB5.out
        ·rw [Below.heap_setCell _ ⟨N, 1, none⟩ _ (g + 1) (by have := HNs.out; show g + 1 ≠ N; omega)]
         exact blk_below HK26.out HB5.out
   ·obtain rfl : i = l0_1.length := by omega
    have hst := HS.out
    rw [List.drop_length, nrmS] at hst
    have HST := Aside0.mk hst
    clear hst HS
    have q0 := (blk_cell HZ.out 0).trans (show _ = some (.int .i64 a0_0) from rfl)
    have q1 := (blk_cell HZ.out 1).trans (show _ = some (.slice Av ls.length cv) from rfl)
    have p0 := (blk_cell HK2.out 0).trans (show _ = some (.int .i64 0) from rfl)
    have p1 := (blk_cell HK2.out 1).trans (show _ = some (.slice none 0 0) from rfl)
    have z0 := blk_frozen HK2.out 0
    have z1 := blk_frozen HK2.out 1
    have HG := Aside0.mk (show w.heap.size ≤ g + 1 by omega)
    go_wp2
    have hz := heap_set (j := 1) (u := .slice Av ls.length cv) (heap_set (j := 0) (u := .int .i64 a0_0) HK2.out)
    (try simp only [Exit.inBlock, Exit.then])
    refine bodyPost_ret (results_ct rfl _ _ (g + 1) 30 #[.int .i64 a0_0, .slice Av ls.length cv] (0, 0) _ rfl hz Try.underlying30 rfl (by kernel_rfl)) rfl ?_
    refine ⟨_, rfl, ?_, (HB.out.setCell (p := ⟨g + 1, 0, none⟩) HG.out _).setCell (p := ⟨g + 1, 1, none⟩) HG.out _⟩
    rw [HST.out]
    exact (HO.out.set HK2.out 0 _).set (heap_set HK2.out) 1 _
def laws_heldIntS.l0 : Nat → List Int → Int → Int → Option (Int)
 | 0, _, _, _ => none
 | k + 1, x0, x1, x5 => if x5 < (x0.length : Int) then (if 0 ≤ x5 then (if (rd x0 x5) = x1 then (laws_heldIntS.l0 k x0 (wrap64 (x1 + 1)) (wrap64 (x5 + 1))) else (some (-1))) else (none)) else (some x1)
def laws_heldIntS.f (k : Nat) (l0 : List Int) (a1 : Int) : Option (Int) := laws_heldIntS.l0 k l0 a1 0
set_option maxHeartbeats 8000000 in
set_option maxRecDepth 100000 in
theorem laws_heldIntS.calls (k : Nat) (A0 : Option Addr) (c0 : Nat) (l0 : List Int) (a1 : Int) (r : Int) (w : World) (hr0 : Kd.C (Kd.int .i64) w A0 l0.length l0) (hc0 : l0.length ≤ c0) (h : laws_heldIntS.f k l0 a1 = some r) :
  Calls Try.prog 28 #[.slice A0 l0.length c0, .int .i64 a1] w fun e w' => e = .returned (.int .i64 r) ∧ Drawn0 w w' := by
 have HR0 := Aside0.mk hr0
 have HC0 := Aside0.mk hc0
 clear hr0 hc0
 have H : (laws_heldIntS.l0 k l0 a1 0) = some r := h
 clear h
 have H' := Aside0.mk H
 clear H
 go_enter Try.func28, Try.ntmps28
 go_wp2
 go_loopg [1, 5] k (fun kq v1 v5 w' => ∃ (x1_1 : Int) (x5_1 : Int), v1 = .int .i64 x1_1 ∧ v5 = .int .i64 x5_1 ∧ Aside0 (laws_heldIntS.l0 kq l0 x1_1 x5_1 = some r) ∧ Aside0 (kq ≤ k) ∧ Drawn0 w w')
 case atStart => exact ⟨(a1), (0), (by first | rfl | (simp; done) | (simp [*]; done)), (by first | rfl | (simp; done) | (simp [*]; done)), H', ⟨Nat.le_refl _⟩, by repeat (first | exact Drawn0.refl _ | apply Drawn0.step)⟩
 case round =>
  clear H'
  try clear c2
  try clear p2
  obtain ⟨x1_1, x5_1, rfl, rfl, HA, HK1, ⟨m1, rfl⟩⟩ := hrel
  cases gk with
  | zero => exact absurd HA.out (by simp [laws_heldIntS.l0])
  | succ k1 =>
   have H := HA.out
   clear HA
   simp only [laws_heldIntS.l0] at H
   by_cases c3 : x5_1 < (l0.length : Int)
   ·rw [if_pos c3] at H
    have c3b0 : decide (x5_1 < (l0.length : Int)) = true := decide_eq_true c3
    clear c3
    by_cases c4 : 0 ≤ x5_1
    ·rw [if_pos c4] at H
     have c4b0 : decide (0 ≤ x5_1) = true := decide_eq_true c4
     clear c4
     by_cases c5 : (rd l0 x5_1) = x1_1
     ·rw [if_pos c5] at H
      have c5b0 : ((rd l0 x5_1) == x1_1) = true := beq_iff_eq.mpr c5
      have c5b1 : ((rd l0 x5_1) != x1_1) = false := bne_eq_false_iff_eq.mpr c5
      clear c5
      have H' := Aside0.mk H
      clear H
      have p156 : 0 ≤ (x5_1 : Int) := of_decide_eq_true (by first | (with_reducible assumption) | assumption)
      have q156 : x5_1 < (l0.length : Int) := of_decide_eq_true (by first | (with_reducible assumption) | assumption)
      obtain ⟨ad156, e156, hx156_0⟩ := Kd.at_int HR0.out x5_1 p156 q156
      cases e156
      replace p156 := eq_true p156
      replace q156 := eq_true q156
      go_wp2
      go_roundg k1
      case measure => have := HK1.out; omega
      case rel => exact ⟨(wrap64 (x1_1 + 1)), (wrap64 (x5_1 + 1)), (by first | rfl | (simp; done) | (simp [*]; done)), (by first | rfl | (simp; done) | (simp [*]; done)), H', ⟨by have := HK1.out; omega⟩, by repeat (first | exact Drawn0.refl _ | apply Drawn0.step)⟩
     ·rw [if_neg c5] at H
      have c5b0 : ((rd l0 x5_1) == x1_1) = false := beq_eq_false_iff_ne.mpr c5
      have c5b1 : ((rd l0 x5_1) != x1_1) = true := bne_iff_ne.mpr c5
      obtain rfl := Option.some.inj H
      have p156 : 0 ≤ (x5_1 : Int) := of_decide_eq_true (by first | (with_reducible assumption) | assumption)
      have q156 : x5_1 < (l0.length : Int) := of_decide_eq_true (by first | (with_reducible assumption) | assumption)
      obtain ⟨ad156, e156, hx156_0⟩ := Kd.at_int HR0.out x5_1 p156 q156
      cases e156
      replace p156 := eq_true p156
      replace q156 := eq_true q156
      go_wp2
      go_ret
      exact ⟨by first | rfl | (simp; done) | (simp [*]; done), by repeat (first | exact Drawn0.refl _ | apply Drawn0.step)⟩
    ·rw [if_neg c4] at H
     exact absurd H (by simp)
   ·rw [if_neg c3] at H
    have c3b0 : decide (x5_1 < (l0.length : Int)) = false := decide_eq_false c3
    clear c3
    obtain rfl := Option.some.inj H
    go_wp2
    go_ret
    exact ⟨by first | rfl | (simp; done) | (simp [*]; done), by repeat (first | exact Drawn0.refl _ | apply Drawn0.step)⟩
end Go.Proofs.Ytelfahcjeldliaa.PFnExactNormalCnf
end
