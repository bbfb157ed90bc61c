/- WRITTEN BY A PROGRAM OF THIS SESSION (wip/xprint) OVER THE KIT's PRINT, FOR THIS CLAIM: for Go functions that the law reaches, one Lean function each and the proof that Go's call comes to its answer. No conditions but those that each theorem names. -/
import Derived.Test.YtelfahcjeldliaaDoorPFnExactDimacsTextx0
import Derived.Test.YtelfahcjeldliaaDoorPFnExactDimacsTextx1
import Derived.Test.YtelfahcjeldliaaDoorPFnExactDimacsTextx2
import Derived.Test.YtelfahcjeldliaaDoorPFnExactDimacsTextx3
namespace Go.Proofs.YtelfahcjeldliaaDoor.PFnExactDimacsText
open Go.RowKit Go.Proofs.YtelfahcjeldliaaDoorW.PrintWords Go.Proofs.YtelfahcjeldliaaDoorW.PrintLast Go.Proofs.YtelfahcjeldliaaDoorW.PrintMore
attribute [local go_sem] max2_int min2_int max_two min_two max_three min_three max_four min_four   -- for this text's walks alone
set_option linter.unusedVariables false
set_option linter.unusedSimpArgs false

/-! ### impl_clauseText: function 22 -/
theorem sB_lit (x : Int) : sB (Lib.itoa x) ++ (⟨#[32]⟩ : ByteArray) = sB (litT x) := by
  rw [show (⟨#[32]⟩ : ByteArray) = sB [32] from rfl, sB_add]; rfl
theorem rd_of (l : List Int) (kk : Nat) (h : kk < l.length) : rd l (kk : Int) = l[kk] := by
  unfold rd; simp [List.getD, h]
theorem itoa_sB (n : Int) (w : World) (hT : Tab w) (h0 : -9223372036854775808 ≤ n) (h1 : n ≤ 9223372036854775807) :
    Calls Tryd.prog 21 #[.int .i64 n] w fun e w' => e = .returned (.string (sB (Lib.itoa n))) ∧ Below w.heap.size w w' := itoa_calls n w hT h0 h1
set_option maxHeartbeats 2000000 in
set_option maxRecDepth 100000 in
theorem impl_clauseText.calls (A0 : Option Addr) (c0 : Nat) (l0 : List Int) (w : World) (hT : Tab w) (hr0 : Kd.C (Kd.int .i64) w A0 l0.length l0) (hc0 : l0.length ≤ c0) (hs : ∀ x ∈ l0, smallI x) (hl : l0.length ≤ 1000000) :
    Calls Tryd.prog 22 #[.slice A0 l0.length c0] w fun e w' => e = .returned (.string (sB (clauseT l0))) ∧ Below w.heap.size w w' := by
  have HR0 := Aside0.mk hr0
  have HT := Aside0.mk hT
  have HS := Aside0.mk hs
  have HL := Aside0.mk hl
  clear hr0 hT hs hl
  have hca := fun W n H h0 h1 => itoa_sB n W H h0 h1
  go_enter Tryd.func22, Tryd.ntmps22
  go_wp2
  go_loopg [3, 8] l0.length (fun gg v3 v8 wr => ∃ (kk : Nat), v3 = .string (sB ((l0.take kk).flatMap litT)) ∧ v8 = .int .i64 kk ∧ kk ≤ l0.length ∧ l0.length - kk ≤ gg ∧ Aside0 (Below w.heap.size w wr))
  case atStart => exact ⟨0, rfl, rfl, Nat.zero_le _, by omega, ⟨Below.refl _ _⟩⟩
  case round =>
    obtain ⟨kk, rfl, rfl, hk, hg, HB⟩ := hrel
    by_cases hlt : kk < l0.length
    · have hltz : (kk : Int) < (l0.length : Int) := by omega
      have h0z : (0 : Int) ≤ (kk : Int) := by omega
      obtain ⟨ad, ea, hx⟩ := Kd.at_int (Kd.C_below HR0.out HB.out) (kk : Int) h0z hltz
      subst ea
      rw [rd_of l0 kk hlt, Int.toNat_natCast] at hx
      have hsm := HS.out _ (List.getElem_mem hlt)
      have HF := Aside0.mk (flat_snoc litT l0 kk _ (List.getElem?_eq_getElem hlt))
      have HN := Aside0.mk (flat_le litT 22 (l0.take kk) (fun x hx => litT_le (HS.out x (List.mem_of_mem_take hx))))
      have HN2 := Aside0.mk (litT_le hsm)
      generalize l0[kk] = x at hx hsm HF HN2
      have ew : IntKind.i64.wrap ((kk : Int) + 1) = ((kk + 1 : Nat) : Int) := IntWalk.i64_in _ (by have := HL.out; omega)
      have hcall := hca wr x (tab_below HT.out HB.out) (by have := hsm.1; omega) (by have := hsm.2; omega)
      obtain ⟨acc, hacc⟩ : ∃ acc, (l0.take kk).flatMap litT = acc := ⟨_, rfl⟩
      rw [hacc] at HF HN ⊢
      have n1 : (sB (Lib.itoa x)).size + 1 ≤ 9223372036854775807 := by have := HN2.out; simp only [litT, List.length_append, List.length_cons, List.length_nil] at this; rw [sB_size]; omega
      have n2 : (sB acc).size + (sB (litT x)).size ≤ 9223372036854775807 := by have := HN2.out; have := HN.out; have := HL.out; rw [List.length_take] at *; rw [sB_size, sB_size]; have : 22 * min kk l0.length ≤ 22 * 1000000 := Nat.mul_le_mul_left _ (by omega); omega
      have e1 := sB_lit x
      have e2 := sB_add acc (litT x)
      clear hacc hsm
      go_wp2_with (go_at_call 21; refine hcall.mono ?_; rintro e w2 ⟨rfl, hb⟩; clear hcall; have HB2 := Aside0.mk (HB.out.trans (hb.mono HB.out.size)); clear hb)
      go_roundg (gk - 1)
      case measure => omega
      case rel => exact ⟨kk + 1, by rw [HF.out], rfl, by omega, by omega, HB2⟩
    · obtain rfl : kk = l0.length := by omega
      have hn := flat_le litT 22 l0 (fun x hx => litT_le (HS.out x hx))
      rw [List.take_length]
      obtain ⟨acc, hacc⟩ : ∃ acc, l0.flatMap litT = acc := ⟨_, rfl⟩
      rw [hacc] at hn ⊢
      have n1 : (sB acc).size + 2 ≤ 9223372036854775807 := by rw [sB_size]; have := HL.out; omega
      have he : sB acc ++ (⟨#[48, 10]⟩ : ByteArray) = sB (clauseT l0) := by rw [show (⟨#[48, 10]⟩ : ByteArray) = sB [48, 10] from rfl, sB_add, clauseT, hacc]
      clear hn hacc
      go_wp2
      go_ret
      exact ⟨rfl, HB.out⟩

/-! ### strings_Builder_String: function 23 -/
theorem string_cut : True := trivial

/-! ### impl_DimacsText: function 8 -/
theorem lit_small {x v : Int} (h : litB x v = true) (h0 : 0 ≤ v) (h1 : v ≤ 40) : smallI x := by
  unfold litB at h
  rw [wr64 (by omega) (by omega)] at h
  simp only [Bool.and_eq_true, decide_eq_true_eq] at h
  exact ⟨by omega, by omega⟩
theorem clause_small {c : List Int} {v : Int} (h : clauseB c v = true) (h0 : 0 ≤ v) (h1 : v ≤ 40) : c.length ≤ 12 ∧ ∀ x ∈ c, smallI x := by
  unfold clauseB at h
  simp only [Bool.and_eq_true, decide_eq_true_eq, Bool.not_eq_true', List.any_eq_false] at h
  exact ⟨h.1, fun x hx => lit_small (by have := h.2 x hx; simpa using this) h0 h1⟩
theorem cnf_small {v : Int} {cs : List (List Int)} (h : cnfB v cs = true) : smallI v ∧ smallI (cs.length : Int) ∧ cs.length ≤ 300 ∧ ∀ c ∈ cs, c.length ≤ 12 ∧ ∀ x ∈ c, smallI x := by
  unfold cnfB at h
  simp only [Bool.and_eq_true, decide_eq_true_eq, Bool.not_eq_true', List.any_eq_false] at h
  obtain ⟨h0, h1, h2, h3⟩ := h
  exact ⟨⟨by omega, by omega⟩, ⟨by omega, by omega⟩, h2, fun c hc => clause_small (by have := h3 c hc; simpa using this) h0 h1⟩
def dimacs_r4_T : Bool × List (List Nat × List Nat) := (true, [([], []), ([0], [0]), ([1], [1]), ([2], [2]), ([3], [3]), ([], []), ([5], [5]), ([6], [6]), ([7, 2], [7]), ([4, 8], [4, 8]), ([9], [9]), ([10, 8], [10])])
theorem dimacs_r4_tab : rtab .any (opsOf Tryd.f8 4) = dimacs_r4_T := by kernel_rfl

def impl_DimacsText.f (a0_0 : Int) (l0_1 : List (List Int)) : Option (ByteArray × Int) := some (if cnfB a0_0 l0_1 = true then (sB (textT a0_0 l0_1), 0) else (sB [], 1))
set_option maxHeartbeats 4000000 in
set_option maxRecDepth 100000 in
theorem impl_DimacsText.calls (a0_0 : Int) (A0_1 : Option Addr) (c0_1 : Nat) (l0_1 : List (List Int)) (r1 : ByteArray) (r2 : Int) (w : World) (hT : Tab w) (hr0_1 : Kd.C (Kd.slice 3 (Kd.int .i64)) w A0_1 l0_1.length l0_1) (hc0_1 : l0_1.length ≤ c0_1) (h : impl_DimacsText.f a0_0 l0_1 = some (r1, r2)) :
    Calls Tryd.prog 8 #[.agg #[.int .i64 a0_0, .slice A0_1 l0_1.length c0_1]] w fun e w' => e = .returned (.tuple #[.string r1, .int .i64 r2]) ∧ Below w.heap.size w w' := by
  have hcn := fun W hr => impl_isCnf.calls a0_0 A0_1 c0_1 l0_1 _ W hr hc0_1 rfl
  have hb0 : Below w.heap.size w (w.alloc (.cells #[.int .i64 a0_0, .slice A0_1 l0_1.length c0_1] 28)) := (Below.refl _ _).alloc (Nat.le_refl _) _
  have HR0 := Aside0.mk hr0_1
  have HT := Aside0.mk hT
  have HB0 := Aside0.mk hb0
  unfold impl_DimacsText.f at h
  have h := Option.some.inj h
  clear hr0_1 hT hb0
  have hr1 := hcn _ (Kd.C_below HR0.out HB0.out)
  cases hv : cnfB a0_0 l0_1 with
  | false =>
    rw [hv] at h hr1
    rw [if_neg Bool.false_ne_true] at h
    cases h
    clear hcn hv
    go_enter Tryd.func8, Tryd.ntmps8
    go_wp2_with (go_at_call 19; refine hr1.mono ?_; rintro e w1 ⟨rfl, hb⟩; have HB1 := Aside0.mk (HB0.out.trans (hb.mono HB0.out.size)); clear hb)
    go_ret2
    exact ⟨rfl, HB1.out⟩
  | true =>
    rw [hv] at h hr1
    rw [if_pos rfl] at h
    cases h
    obtain ⟨hs0, hs1, hs2⟩ := cnf_small hv
    have HS0 := Aside0.mk hs0
    have HS1 := Aside0.mk hs1
    have HS2 := Aside0.mk hs2
    clear hcn hv hs0 hs1 hs2
    go_enter Tryd.func8, Tryd.ntmps8
    go_wp2_with (go_at_call 19; refine hr1.mono ?_; rintro e w1 ⟨rfl, hb⟩; have HB1 := Aside0.mk (HB0.out.trans (hb.mono HB0.out.size)); have hx0 := (hb.cell (p := ⟨w.heap.size, 0, none⟩) (by simp)).trans (by simp : _ = some (.int .i64 a0_0)); have hx1 := (hb.cell (p := ⟨w.heap.size, 1, none⟩) (by simp)).trans (by simp : _ = some (.slice A0_1 l0_1.length c0_1)); have HX0 := Aside0.mk hx0; have HX1 := Aside0.mk hx1; clear hb hx0 hx1 hr1)
    obtain ⟨g, hg⟩ : ∃ g, w.heap.size = g := ⟨_, rfl⟩
    obtain ⟨q, hq⟩ : ∃ q, w1.heap.size = q := ⟨_, rfl⟩
    have hb2 : Below w1.heap.size w1 (w1.alloc (.cells #[.pointer none, .slice none 0 0] 46)) := (Below.refl _ _).alloc (Nat.le_refl _) _
    have HBU := Aside0.mk (Lib.fresh_isBuilder 46 5 w1)
    have HB2 := Aside0.mk (HB1.out.trans (hb2.mono HB1.out.size))
    have hX0 := Aside0.mk ((hb2.cell (World.block_lt_of_cell? _ _ HX0.out)).trans HX0.out)
    have hX1 := Aside0.mk ((hb2.cell (World.block_lt_of_cell? _ _ HX1.out)).trans HX1.out)
    have HGQ := Aside0.mk (World.block_lt_of_cell? _ _ HX0.out)
    have HQ := Aside0.mk (And.intro HB1.out.size (show w1.heap.size ≤ (w1.alloc (.cells #[.pointer none, .slice none 0 0] 46)).heap.size by simp))
    clear hb2 HX0 HX1 HB1
    generalize w1.alloc (.cells #[.pointer none, .slice none 0 0] 46) = w2 at HBU HB2 hX0 hX1 HQ ⊢
    rw [hq] at HBU HQ HGQ ⊢
    have HB2' : Aside0 (Below w.heap.size w w2.drew) := ⟨below_drewN' HB2.out 1⟩
    rw [hg] at hX0 hX1 HGQ HQ ⊢
    have itC : ∀ W, Below w2.drew.heap.size w2.drew W → ∀ n, smallI n → Calls Tryd.prog 21 #[.int .i64 n] W fun e W' => e = .returned (.string (sB (Lib.itoa n))) ∧ Below W.heap.size W W' := fun W hW n hn => itoa_sB n W (tab_below (tab_below HT.out (hg ▸ HB2'.out : Below w.heap.size w w2.drew)) hW) (by have := hn.1; omega) (by have := hn.2; omega)
    have hL0 := itoa_le HS0.out
    have hL1 := itoa_le HS1.out
    refine any_tail [some 10, some 11, some 12, some 13, some 14, some 15, some 16, some 17, some 18, some 19, some 20, some 21] 34 11 [0, 1, 3, 7, 15, 0, 32, 96, 231, 511, 1023, 2047] [VP.eq (.pointer (some ⟨g, 0, none⟩)), VP.eq (.int .i64 (a0_0)), VP.eq (.string (sB (Lib.itoa a0_0))), VP.eq (.string (sB ([112, 32, 99, 110, 102, 32] ++ (Lib.itoa a0_0)))), VP.eq (.string (sB (([112, 32, 99, 110, 102, 32] ++ (Lib.itoa a0_0)) ++ [32]))), VP.eq (.pointer (some ⟨g, 1, none⟩)), VP.eq (.slice A0_1 l0_1.length c0_1), VP.eq (.int .i64 ((l0_1.length : Int))), VP.eq (.string (sB (Lib.itoa (l0_1.length : Int)))), VP.eq (.string (sB ((([112, 32, 99, 110, 102, 32] ++ (Lib.itoa a0_0)) ++ [32]) ++ (Lib.itoa (l0_1.length : Int))))), VP.eq (.string (sB (((([112, 32, 99, 110, 102, 32] ++ (Lib.itoa a0_0)) ++ [32]) ++ (Lib.itoa (l0_1.length : Int))) ++ [10])))] rfl dimacs_r4_tab rfl rfl (by kernel_rfl) rfl ⟨?_, ?_, ?_, ?_, ?_, ?_, ?_, ?_, ?_, ?_, ?_, trivial⟩ ?_
    · intro bq W B hW hB hb hd K hK hK2; exact gd_step (C := true) wn_ (fun _ => x_fa28 rfl (of_decide_eq_true (by kernel_rfl)) (hb 1)) (hK _ W rfl (Below.refl _ _))
    · intro bq W B hW hB hb hd K hK hK2; exact gd_step (C := true) wn_ (fun _ => x_ld3 rfl (hd 0 10) ((hW.cell (p := ⟨g, 0, none⟩) (World.block_lt_of_cell? _ _ hX0.out)).trans hX0.out)) (hK _ W rfl (Below.refl _ _))
    · intro bq W B hW hB hb hd K hK hK2; exact gc_step (C := true) wn_ (fun _ => ⟨x_call Tryd.func21 (by kernel_rfl) rfl rfl (args1 (hd 1 11)), (itC W hW _ HS0.out).mono (fun e_ W_ h_ => ⟨h_.1, h_.2⟩)⟩) (fun W_ hb_ => hK _ W_ rfl hb_)
    · intro bq W B hW hB hb hd K hK hK2; exact gd_step (C := true) wn_ (fun _ => x_adds rfl rfl (hd 2 12) (sB_add ([112, 32, 99, 110, 102, 32]) ((Lib.itoa a0_0))) (by show (sB ([112, 32, 99, 110, 102, 32])).size + (sB ((Lib.itoa a0_0))).size ≤ 9223372036854775807; rw [sB_size, sB_size]; simp only [List.length_append, List.length_cons, List.length_nil]; omega)) (hK _ W rfl (Below.refl _ _))
    · intro bq W B hW hB hb hd K hK hK2; exact gd_step (C := true) wn_ (fun _ => x_adds rfl (hd 3 13) rfl (sB_add (([112, 32, 99, 110, 102, 32] ++ (Lib.itoa a0_0))) ([32])) (by show (sB (([112, 32, 99, 110, 102, 32] ++ (Lib.itoa a0_0)))).size + (sB ([32])).size ≤ 9223372036854775807; rw [sB_size, sB_size]; simp only [List.length_append, List.length_cons, List.length_nil]; omega)) (hK _ W rfl (Below.refl _ _))
    · intro bq W B hW hB hb hd K hK hK2; exact gd_step (C := true) wn_ (fun _ => x_fa28 rfl (of_decide_eq_true (by kernel_rfl)) (hb 1)) (hK _ W rfl (Below.refl _ _))
    · intro bq W B hW hB hb hd K hK hK2; exact gd_step (C := true) wn_ (fun _ => x_ld22 rfl (hd 5 15) ((hW.cell (p := ⟨g, 1, none⟩) (World.block_lt_of_cell? _ _ hX1.out)).trans hX1.out)) (hK _ W rfl (Below.refl _ _))
    · intro bq W B hW hB hb hd K hK hK2; exact gd_step (C := true) wn_ (fun _ => x_len Tryd.underlying22 rfl (hd 6 16)) (hK _ W rfl (Below.refl _ _))
    · intro bq W B hW hB hb hd K hK hK2; exact gc_step (C := true) wn_ (fun _ => ⟨x_call Tryd.func21 (by kernel_rfl) rfl rfl (args1 (hd 7 17)), (itC W hW _ HS1.out).mono (fun e_ W_ h_ => ⟨h_.1, h_.2⟩)⟩) (fun W_ hb_ => hK _ W_ rfl hb_)
    · intro bq W B hW hB hb hd K hK hK2; exact gd_step (C := true) wn_ (fun _ => x_adds rfl (hd 4 14) (hd 8 18) (sB_add ((([112, 32, 99, 110, 102, 32] ++ (Lib.itoa a0_0)) ++ [32])) ((Lib.itoa (l0_1.length : Int)))) (by show (sB ((([112, 32, 99, 110, 102, 32] ++ (Lib.itoa a0_0)) ++ [32]))).size + (sB ((Lib.itoa (l0_1.length : Int)))).size ≤ 9223372036854775807; rw [sB_size, sB_size]; simp only [List.length_append, List.length_cons, List.length_nil]; omega)) (hK _ W rfl (Below.refl _ _))
    · intro bq W B hW hB hb hd K hK hK2; exact gd_step (C := true) wn_ (fun _ => x_adds rfl (hd 9 19) rfl (sB_add (((([112, 32, 99, 110, 102, 32] ++ (Lib.itoa a0_0)) ++ [32]) ++ (Lib.itoa (l0_1.length : Int)))) ([10])) (by show (sB (((([112, 32, 99, 110, 102, 32] ++ (Lib.itoa a0_0)) ++ [32]) ++ (Lib.itoa (l0_1.length : Int))))).size + (sB ([10])).size ≤ 9223372036854775807; rw [sB_size, sB_size]; simp only [List.length_append, List.length_cons, List.length_nil]; omega)) (hK _ W rfl (Below.refl _ _))
    · intro vals F W B hF hW hBB hV
      have hf : vals 20 = .string (sB (headT a0_0 l0_1.length)) := hV 10 20 (of_decide_eq_true (by kernel_rfl)) rfl
      have HB3 := Aside0.mk (HB2'.out.trans (hW.mono HB2'.out.size))
      have HBU3 := Aside0.mk (build_below (build_below HBU.out (below_drewN' (Below.refl _ _) 1)) hW)
      have hlt2 : g < w2.drew.heap.size := World.block_lt_of_cell? _ _ hX1.out
      have hX3 := (hW.cell (p := ⟨g, 1, none⟩) hlt2).trans (show w2.drew.cell? ⟨g, 1, none⟩ = _ from hX1.out)
      have hqW : q ≤ W.heap.size := Nat.le_trans HQ.out.2 hW.size
      have hw4 := writeStr q q [] (sB (headT a0_0 l0_1.length)) W HBU3.out (by rw [sB_size]; simp only [List.length_nil, headT, List.length_append, List.length_cons]; omega) hqW
      have hhl : (headT a0_0 l0_1.length).length ≤ 100 := by simp only [headT, List.length_append, List.length_cons, List.length_nil]; omega
      have HHL := Aside0.mk hhl
      rw [hF]
      clear hF hV hBB HB2 HB2' HBU hX0 hX1 itC hL0 hL1 hhl hlt2 HBU3
      simp only [cond_true, List.take, fillA, Act.put, List.setIfInBounds_toArray, List.set_cons_zero, List.set_cons_succ, hf]
      clear hf
      go_wp2_with (go_at_call 20; refine hw4.mono ?_; rintro e w4 ⟨rfl, hbu, hb⟩; clear hw4; have HB4 := Aside0.mk (HB3.out.trans (hb.mono (by have := HQ.out.1; omega))); have HBU4 := Aside0.mk (Or.inr hbu : Lib.IsBuilder 46 5 q q ([] ++ Lib.strCells (sB (headT a0_0 l0_1.length))) w4); have hX4 := (hb.cell (p := ⟨g, 1, none⟩) HGQ.out).trans hX3; have HW := Aside0.mk hW; clear hb hX3 hbu hW)
      go_loopg [25] l0_1.length (fun gg v25 wr => ∃ (kk : Nat), v25 = .int .i64 kk ∧ kk ≤ l0_1.length ∧ l0_1.length - kk ≤ gg ∧ Aside0 (Lib.IsBuilder 46 5 q q (Lib.byteCells (headT a0_0 l0_1.length ++ (l0_1.take kk).flatMap clauseT)) wr) ∧ Aside0 (Below w.heap.size w wr))
      case atStart => exact ⟨0, rfl, Nat.zero_le _, by omega, ⟨by rw [List.take_zero, List.flatMap_nil, List.append_nil]; exact HBU4.out⟩, HB4⟩
      case round =>
        clear HBU4 HB4 hX4
        obtain ⟨kk, rfl, hk, hgk, HBU, HB⟩ := hrel
        have hqr : q < wr.heap.size := by
          rcases HBU.out with h | h
          · exact h.lt
          · exact h.lt
        by_cases hlt : kk < l0_1.length
        · have hltz : (kk : Int) < (l0_1.length : Int) := by omega
          have h0z : (0 : Int) ≤ (kk : Int) := by omega
          obtain ⟨ad, A2, c2, ea, hx, hlc, hC2⟩ := at_L1 (Kd.C_below HR0.out HB.out) (kk : Int) h0z hltz
          subst ea
          have hrd : rd_L1 l0_1 (kk : Int) = l0_1[kk] := by unfold rd_L1; simp [List.getD, hlt]
          rw [Int.toNat_natCast, hrd] at hx
          rw [hrd] at hlc hC2
          have hcs := HS2.out.2 _ (List.getElem_mem hlt)
          have HF := Aside0.mk (flat_snoc clauseT l0_1 kk _ (List.getElem?_eq_getElem hlt))
          have hn1 := flat_le clauseT 266 (l0_1.take kk) (fun c hc => by have h := HS2.out.2 c (List.mem_of_mem_take hc); have := clauseT_le h.2; omega)
          have hn2 := clauseT_le hcs.2
          generalize l0_1[kk] = c at hx hlc hC2 hcs HF hn2
          have ew : IntKind.i64.wrap ((kk : Int) + 1) = ((kk + 1 : Nat) : Int) := IntWalk.i64_in _ (by have := HS2.out.1; omega)
          have hcall := impl_clauseText.calls A2 c2 c wr (tab_below HT.out HB.out) hC2 hlc hcs.2 (by omega)
          obtain ⟨acc, hacc⟩ : ∃ acc, headT a0_0 l0_1.length ++ (l0_1.take kk).flatMap clauseT = acc := ⟨_, rfl⟩
          have hal : acc.length ≤ 100000 := by
            rw [← hacc, List.length_append]
            have h1 : (l0_1.take kk).length ≤ 300 := by rw [List.length_take]; have := HS2.out.1; omega
            have h2 : 266 * (l0_1.take kk).length ≤ 266 * 300 := Nat.mul_le_mul_left _ h1
            have := HHL.out
            omega
          have hsn : headT a0_0 l0_1.length ++ (l0_1.take (kk + 1)).flatMap clauseT = acc ++ clauseT c := by rw [HF.out, ← List.append_assoc, hacc]
          rw [hacc] at HBU
          have HN := Aside0.mk (And.intro hal (show (clauseT c).length ≤ 266 by have := hcs.1; omega))
          have HSN := Aside0.mk hsn
          clear hacc hcs hn1 hn2 hal hsn HF hrd
          go_wp2_with (first
            | (go_at_call 22; refine hcall.mono ?_; rintro e w5 ⟨rfl, hb⟩; clear hcall; have hw6 := writeStr q q (Lib.byteCells acc) (sB (clauseT c)) w5 (build_below HBU.out hb) (by rw [sB_size, Lib.byteCells_length]; have := HN.out; omega) (Nat.le_trans (Nat.le_of_lt hqr) hb.size); have HB5 := Aside0.mk (HB.out.trans (hb.mono HB.out.size)); clear hb)
            | (go_at_call 20; refine hw6.mono ?_; rintro e w6 ⟨rfl, hbu, hb⟩; clear hw6; have HB6 := Aside0.mk (HB5.out.trans (hb.mono (by have := HQ.out.1; omega))); have HBU6 := Aside0.mk (Or.inr hbu : Lib.IsBuilder 46 5 q q (Lib.byteCells acc ++ Lib.strCells (sB (clauseT c))) w6); clear hb hbu))
          go_roundg (gk - 1)
          case measure => omega
          case rel => exact ⟨kk + 1, rfl, by omega, by omega, ⟨by rw [HSN.out, Lib.byteCells_append]; exact HBU6.out⟩, HB6⟩
        · obtain rfl : kk = l0_1.length := by omega
          have hu := HBU.out
          rw [List.take_length] at hu
          have hst := Tryd.Builder_String_any q q _ wr hu (Nat.le_of_lt hqr)
          clear hu
          go_wp2_with (go_at_call 23; refine hst.mono ?_; rintro e w7 ⟨rfl, hb⟩; have HB7 := Aside0.mk (HB.out.trans (hb.mono (by have := HQ.out.1; omega))); clear hb hst)
          go_ret2
          exact ⟨rfl, HB7.out⟩

/-! ### spec_l01Text: function 17 -/
theorem own_conv (W : World) (base : Nat) (l : List UInt8) (hb : base ≤ W.heap.size) (hl : l.length ≤ 1099511627776) : Own (Lib.bytesWorld W 5 (sB l)) base (.slice (some ⟨W.heap.size, 0, none⟩) l.length (grownCap W l.length 0 5)) l := by
  have hge := grownCap_ge W l.length 0 5
  have hcm := grownCap_le_maxLen W l.length 0 5 (by simp only [maxLen]; omega)
  have hs := sB_size l
  have hsz : (Lib.bytesCells W 5 (sB l)).size = grownCap W l.length 0 5 := by
    unfold Lib.bytesCells
    rw [Array.size_append, Array.size_map, Array.size_replicate, show (sB l).data.size = l.length from hs, hs]
    omega
  refine ⟨W.heap.size, _, _, _, rfl, hb, Lib.bytesWorld_at_new W 5 (sB l), .inr (Nat.le_refl _), hge, hcm, hsz, ?_⟩
  unfold Lib.bytesCells
  rw [Array.toList_append]
  have : ((sB l).data.map fun b => Value.int .u8 b.toNat).toList = Lib.byteCells l := by
    rw [Array.toList_map]; rfl
  rw [this, ← Lib.byteCells_length l]
  exact List.take_left
theorem conv_to (l : List UInt8) (W : World) : (convert 9 44 (.string (sB l))).run Tryd.prog W = .ok (.slice (some ⟨W.heap.size, 0, none⟩) l.length (grownCap W l.length 0 5)) (Lib.bytesWorld W 5 (sB l)) := by
  have h := print_bytes (P := Tryd.prog) 9 44 5 Tryd.underlying9 Tryd.underlying44 Tryd.underlying5 (sB l) W
  rw [sB_size] at h
  exact h
theorem conv_back {w : World} {base : Nat} {v : Value} {l : List UInt8} (h : Own w base v l) : (convert 44 9 v).run Tryd.prog w = .ok (.string (sB l)) w := by
  obtain ⟨g, cap, rfl, hc⟩ := h.cell
  have h2 := run_convert_bytes_arg (P := Tryd.prog) w 44 5 Tryd.underlying44 Tryd.underlying5 g 0 l.length cap (l.map fun b => (b.toNat : Int)) (by simp) (fun i hi => by
    have h3 := hc i (.int .u8 l[i].toNat) (by simp [Lib.byteCells, hi])
    have hadd : (⟨g, 0, none⟩ : Addr).add i = ⟨g, 0 + i, none⟩ := by unfold Addr.add; split <;> simp_all
    rw [hadd] at h3
    rw [h3]
    simp [List.getD, hi]) 9 Tryd.underlying9
  have hm : (l.map (fun b => (b.toNat : Int))).map (fun n => UInt8.ofNat n.toNat) = l := by
    rw [List.map_map]
    conv => rhs; rw [← List.map_id l]
    exact List.map_congr_left (fun b _ => by simp)
  rw [h2]
  unfold strOfNums sB
  rw [hm]
section
variable {ops : Array Oper} {rest : List Oper} {o : Oper} {a : Act} {Q : Exit → Act → World → Prop}
theorem Own.step {w : World} (hgd : o.guard = none) (sl x : Operand) (t u : TypeId) (ho : o.op = .call { callee := .builtin .append, args := #[sl, x], argTypes := #[t, u] })
    (ht : Tryd.prog.underlying t = some (.slice 5)) (hu : Tryd.prog.underlying u = some .string) (base : Nat) (v : Value) (l : List UInt8) (hs : a.eval sl = v) (hown : Own w base v l) (s : List UInt8) (hx : a.eval x = .string (sB s))
    (hl : l.length + s.length ≤ 140737488355328) (hbase : base ≤ w.heap.size)
    (h : ∀ v' w', Own w' base v' (l ++ s) → Below base w w' → wpList Tryd.prog ops Q rest (a.put o.dst v') w') : wpList Tryd.prog ops Q (o :: rest) a w := by
  refine wpList_plain hgd fun K hK => ?_
  obtain ⟨v', w', hr, h2, h3⟩ := hown.append t u o.type ht hu s hl hbase
  unfold Oper.wp execOp
  simp only [ho, resolve, invoke, builtin, Sem.run_bind, Sem.run_pure, Result.andThen_ok, List.map_toArray, List.map_cons, List.map_nil, hs, hx, hr]
  exact hK _ _ (h v' w' h2 h3)
end
def l01Text_r1_T : Bool × List (List Nat × List Nat) := (true, [([], []), ([0], [0]), ([1], [1]), ([2], [2]), ([3], [3]), ([], []), ([5], [5]), ([6], [6]), ([7, 2], [7]), ([4, 8], [4, 8]), ([9], [9]), ([10], [10]), ([11, 8, 0, 1, 2, 3, 4, 5, 6, 7, 8, 9, 10, 11], [11])])
theorem l01Text_r1_tab : rtab .any (opsOf Tryd.f17 1) = l01Text_r1_T := by kernel_rfl

def spec_l01Text.f (a0_0 : Int) (l0_1 : List (List Int)) : Option ByteArray := if cnfB a0_0 l0_1 = true then some (sB (textT a0_0 l0_1)) else none
set_option maxHeartbeats 4000000 in
set_option maxRecDepth 100000 in
theorem spec_l01Text.calls (a0_0 : Int) (A0_1 : Option Addr) (c0_1 : Nat) (l0_1 : List (List Int)) (r : ByteArray) (w : World) (hr0_1 : Kd.C (Kd.slice 3 (Kd.int .i64)) w A0_1 l0_1.length l0_1) (hc0_1 : l0_1.length ≤ c0_1) (h : spec_l01Text.f a0_0 l0_1 = some r) :
    Calls Tryd.prog 17 #[.agg #[.int .i64 a0_0, .slice A0_1 l0_1.length c0_1]] w fun e w' => e = .returned (.string r) ∧ Below w.heap.size w w' := by
  have hb0 : Below w.heap.size w (w.alloc (.cells #[.int .i64 a0_0, .slice A0_1 l0_1.length c0_1] 28)) := (Below.refl _ _).alloc (Nat.le_refl _) _
  have HR0 := Aside0.mk hr0_1
  have HB2 := Aside0.mk hb0
  unfold spec_l01Text.f at h
  clear hr0_1 hb0
  cases hv : cnfB a0_0 l0_1 with
  | false => rw [hv, if_neg Bool.false_ne_true] at h; cases h
  | true =>
    rw [hv, if_pos rfl] at h
    cases h
    obtain ⟨hs0, hs1, hs2⟩ := cnf_small hv
    have HS0 := Aside0.mk hs0
    have HS1 := Aside0.mk hs1
    have HS2 := Aside0.mk hs2
    clear hv hs0 hs1 hs2
    go_enter Tryd.func17, Tryd.ntmps17
    go_wp2
    obtain ⟨g, hg⟩ : ∃ g, w.heap.size = g := ⟨_, rfl⟩
    have hx0 : (w.alloc (.cells #[.int .i64 a0_0, .slice A0_1 l0_1.length c0_1] 28)).cell? ⟨w.heap.size, 0, none⟩ = some (.int .i64 a0_0) := by simp
    have hx1 : (w.alloc (.cells #[.int .i64 a0_0, .slice A0_1 l0_1.length c0_1] 28)).cell? ⟨w.heap.size, 1, none⟩ = some (.slice A0_1 l0_1.length c0_1) := by simp
    have hX0 := Aside0.mk hx0
    have hX1 := Aside0.mk hx1
    have HQ := Aside0.mk (show w.heap.size < (w.alloc (.cells #[.int .i64 a0_0, .slice A0_1 l0_1.length c0_1] 28)).heap.size by simp)
    clear hx0 hx1
    generalize w.alloc (.cells #[.int .i64 a0_0, .slice A0_1 l0_1.length c0_1] 28) = w2 at HB2 hX0 hX1 HQ ⊢
    rw [hg] at hX0 hX1 HQ ⊢
    have HB2' : Aside0 (Below w.heap.size w w2.drew) := ⟨below_drewN' HB2.out 1⟩
    have hL0 := itoa_le HS0.out
    have hL1 := itoa_le HS1.out
    refine any_tail [some 6, some 7, some 8, some 9, some 10, some 11, some 12, some 13, some 14, some 15, some 16, some 17, some 3] 51 11 [0, 1, 3, 7, 15, 0, 32, 96, 231, 511, 1023, 2047, 4095] [VP.eq (.pointer (some ⟨g, 0, none⟩)), VP.eq (.int .i64 (a0_0)), VP.eq (.string (sB (Lib.itoa a0_0))), VP.eq (.string (sB ([112, 32, 99, 110, 102, 32] ++ (Lib.itoa a0_0)))), VP.eq (.string (sB (([112, 32, 99, 110, 102, 32] ++ (Lib.itoa a0_0)) ++ [32]))), VP.eq (.pointer (some ⟨g, 1, none⟩)), VP.eq (.slice A0_1 l0_1.length c0_1), VP.eq (.int .i64 ((l0_1.length : Int))), VP.eq (.string (sB (Lib.itoa (l0_1.length : Int)))), VP.eq (.string (sB ((([112, 32, 99, 110, 102, 32] ++ (Lib.itoa a0_0)) ++ [32]) ++ (Lib.itoa (l0_1.length : Int))))), VP.eq (.string (sB (((([112, 32, 99, 110, 102, 32] ++ (Lib.itoa a0_0)) ++ [32]) ++ (Lib.itoa (l0_1.length : Int))) ++ [10])))] rfl l01Text_r1_tab rfl rfl (by kernel_rfl) rfl ⟨?_, ?_, ?_, ?_, ?_, ?_, ?_, ?_, ?_, ?_, ?_, trivial⟩ ?_
    · intro bq W B hW hB hb hd K hK hK2; exact gd_step (C := true) wn_ (fun _ => x_fa28 rfl (of_decide_eq_true (by kernel_rfl)) (hb 1)) (hK _ W rfl (Below.refl _ _))
    · intro bq W B hW hB hb hd K hK hK2; exact gd_step (C := true) wn_ (fun _ => x_ld3 rfl (hd 0 6) ((hW.cell (p := ⟨g, 0, none⟩) (World.block_lt_of_cell? _ _ hX0.out)).trans hX0.out)) (hK _ W rfl (Below.refl _ _))
    · intro bq W B hW hB hb hd K hK hK2; exact gc_step (C := true) wn_ (fun _ => ⟨x_call Tryd.func34 (by kernel_rfl) rfl rfl (args1 (hd 1 7)), (digits_calls _ W HS0.out).mono (fun e_ W_ h_ => ⟨h_.1, h_.2⟩)⟩) (fun W_ hb_ => hK _ W_ rfl hb_)
    · intro bq W B hW hB hb hd K hK hK2; exact gd_step (C := true) wn_ (fun _ => x_adds rfl rfl (hd 2 8) (sB_add ([112, 32, 99, 110, 102, 32]) ((Lib.itoa a0_0))) (by show (sB ([112, 32, 99, 110, 102, 32])).size + (sB ((Lib.itoa a0_0))).size ≤ 9223372036854775807; rw [sB_size, sB_size]; simp only [List.length_append, List.length_cons, List.length_nil]; omega)) (hK _ W rfl (Below.refl _ _))
    · intro bq W B hW hB hb hd K hK hK2; exact gd_step (C := true) wn_ (fun _ => x_adds rfl (hd 3 9) rfl (sB_add (([112, 32, 99, 110, 102, 32] ++ (Lib.itoa a0_0))) ([32])) (by show (sB (([112, 32, 99, 110, 102, 32] ++ (Lib.itoa a0_0)))).size + (sB ([32])).size ≤ 9223372036854775807; rw [sB_size, sB_size]; simp only [List.length_append, List.length_cons, List.length_nil]; omega)) (hK _ W rfl (Below.refl _ _))
    · intro bq W B hW hB hb hd K hK hK2; exact gd_step (C := true) wn_ (fun _ => x_fa28 rfl (of_decide_eq_true (by kernel_rfl)) (hb 1)) (hK _ W rfl (Below.refl _ _))
    · intro bq W B hW hB hb hd K hK hK2; exact gd_step (C := true) wn_ (fun _ => x_ld22 rfl (hd 5 11) ((hW.cell (p := ⟨g, 1, none⟩) (World.block_lt_of_cell? _ _ hX1.out)).trans hX1.out)) (hK _ W rfl (Below.refl _ _))
    · intro bq W B hW hB hb hd K hK hK2; exact gd_step (C := true) wn_ (fun _ => x_len Tryd.underlying22 rfl (hd 6 12)) (hK _ W rfl (Below.refl _ _))
    · intro bq W B hW hB hb hd K hK hK2; exact gc_step (C := true) wn_ (fun _ => ⟨x_call Tryd.func34 (by kernel_rfl) rfl rfl (args1 (hd 7 13)), (digits_calls _ W HS1.out).mono (fun e_ W_ h_ => ⟨h_.1, h_.2⟩)⟩) (fun W_ hb_ => hK _ W_ rfl hb_)
    · intro bq W B hW hB hb hd K hK hK2; exact gd_step (C := true) wn_ (fun _ => x_adds rfl (hd 4 10) (hd 8 14) (sB_add ((([112, 32, 99, 110, 102, 32] ++ (Lib.itoa a0_0)) ++ [32])) ((Lib.itoa (l0_1.length : Int)))) (by show (sB ((([112, 32, 99, 110, 102, 32] ++ (Lib.itoa a0_0)) ++ [32]))).size + (sB ((Lib.itoa (l0_1.length : Int)))).size ≤ 9223372036854775807; rw [sB_size, sB_size]; simp only [List.length_append, List.length_cons, List.length_nil]; omega)) (hK _ W rfl (Below.refl _ _))
    · intro bq W B hW hB hb hd K hK hK2; exact gd_step (C := true) wn_ (fun _ => x_adds rfl (hd 9 15) rfl (sB_add (((([112, 32, 99, 110, 102, 32] ++ (Lib.itoa a0_0)) ++ [32]) ++ (Lib.itoa (l0_1.length : Int)))) ([10])) (by show (sB (((([112, 32, 99, 110, 102, 32] ++ (Lib.itoa a0_0)) ++ [32]) ++ (Lib.itoa (l0_1.length : Int))))).size + (sB ([10])).size ≤ 9223372036854775807; rw [sB_size, sB_size]; simp only [List.length_append, List.length_cons, List.length_nil]; omega)) (hK _ W rfl (Below.refl _ _))
    · intro vals F W B hF hW hBB hV
      have hf : vals 16 = .string (sB (headT a0_0 l0_1.length)) := hV 10 16 (of_decide_eq_true (by kernel_rfl)) rfl
      have HB3 := Aside0.mk (HB2'.out.trans (hW.mono HB2'.out.size))
      have hlt2 : g < w2.drew.heap.size := HQ.out
      have hX3 := (hW.cell (p := ⟨g, 1, none⟩) hlt2).trans (show w2.drew.cell? ⟨g, 1, none⟩ = _ from hX1.out)
      have hgW : g + 1 ≤ W.heap.size := Nat.le_trans hlt2 hW.size
      have hhl : (headT a0_0 l0_1.length).length ≤ 100 := by simp only [headT, List.length_append, List.length_cons, List.length_nil]; omega
      have HHL := Aside0.mk hhl
      have hgB : g ≤ W.heap.size := by omega
      obtain ⟨hT, hHT⟩ : ∃ hT, headT a0_0 l0_1.length = hT := ⟨_, rfl⟩
      have hTX : sB (textT a0_0 l0_1) = sB (hT ++ l0_1.flatMap clauseT) := by rw [← hHT]; rfl
      have HTX := Aside0.mk hTX
      rw [hHT] at hf HHL
      have hcv := conv_to hT W
      have HO := Aside0.mk (own_conv W (g + 1) hT hgW (by have := HHL.out; omega))
      have hbw : Below (g + 1) W (Lib.bytesWorld W 5 (sB hT)) := bytes_below (Below.refl _ _) hgW 5 (sB hT)
      have HB4 := Aside0.mk (HB3.out.trans (hbw.mono (by omega)))
      have HX4 := Aside0.mk ((hbw.cell (p := ⟨g, 1, none⟩) (Nat.lt_succ_self g)).trans hX3)
      have HG4 := Aside0.mk (Nat.le_trans hgW hbw.size)
      rw [hF]
      clear hF hV hBB HB2 HB2' hX0 hX1 hL0 hL1 hhl hlt2 hHT hTX hX3 hbw HB3 hW hgW hgB
      simp only [cond_true, List.take, fillA, Act.put, List.setIfInBounds_toArray, List.set_cons_zero, List.set_cons_succ, hf]
      clear hf
      generalize grownCap W hT.length 0 5 = cap at hcv HO
      generalize hbwd : Lib.bytesWorld W 5 (sB hT) = w4 at hcv HO HB4 HX4 HG4
      clear hbwd
      go_wp2
      clear hcv
      go_loopg [3, 4] l0_1.length (fun gg v3 v4 wr => ∃ (kk : Nat) (v : Value), v3 = v ∧ v4 = .int .i64 kk ∧ kk ≤ l0_1.length ∧ l0_1.length - kk ≤ gg ∧ Aside0 (Own wr (g + 1) v (hT ++ (l0_1.take kk).flatMap clauseT)) ∧ Aside0 (wr.cell? ⟨g, 1, none⟩ = some (.slice A0_1 l0_1.length c0_1)) ∧ Aside0 (g + 1 ≤ wr.heap.size) ∧ Aside0 (Below w.heap.size w wr))
      case atStart => exact ⟨0, _, rfl, rfl, Nat.zero_le _, by omega, ⟨by rw [List.take_zero, List.flatMap_nil, List.append_nil]; exact HO.out⟩, HX4, HG4, HB4⟩
      case round =>
        clear HO HB4 HX4 HG4
        obtain ⟨kk, v, rfl, rfl, hk, hgk, HO, HX, HG, HB⟩ := hrel
        have hX := HX.out
        by_cases hlt : kk < l0_1.length
        · have hltz : (kk : Int) < (l0_1.length : Int) := by omega
          have h0z : (0 : Int) ≤ (kk : Int) := by omega
          obtain ⟨ad, A2, c2, ea, hxw, hlc, hC2⟩ := at_L1 HR0.out (kk : Int) h0z hltz
          subst ea
          have hrd : rd_L1 l0_1 (kk : Int) = l0_1[kk] := by unfold rd_L1; simp [List.getD, hlt]
          rw [Int.toNat_natCast, hrd] at hxw
          rw [hrd] at hlc hC2
          have HCS := Aside0.mk (HS2.out.2 _ (List.getElem_mem hlt))
          have HF := Aside0.mk (flat_snoc clauseT l0_1 kk _ (List.getElem?_eq_getElem hlt))
          have hn1 := flat_le clauseT 266 (l0_1.take kk) (fun c hc => by have h := HS2.out.2 c (List.mem_of_mem_take hc); have := clauseT_le h.2; omega)
          generalize l0_1[kk] = c at hxw hlc hC2 HCS HF
          have ew : IntKind.i64.wrap ((kk : Int) + 1) = ((kk + 1 : Nat) : Int) := IntWalk.i64_in _ (by have := HS2.out.1; omega)
          obtain ⟨acc, hacc⟩ : ∃ acc, hT ++ (l0_1.take kk).flatMap clauseT = acc := ⟨_, rfl⟩
          have hal : acc.length ≤ 100000 := by
            rw [← hacc, List.length_append]
            have h1 : (l0_1.take kk).length ≤ 300 := by rw [List.length_take]; have := HS2.out.1; omega
            have h2 : 266 * (l0_1.take kk).length ≤ 266 * 300 := Nat.mul_le_mul_left _ h1
            have := HHL.out
            omega
          have hsn : hT ++ (l0_1.take (kk + 1)).flatMap clauseT = acc ++ clauseT c := by rw [HF.out, ← List.append_assoc, hacc]
          rw [hacc] at HO
          have HN := Aside0.mk hal
          have HSN := Aside0.mk hsn
          have HC2 := Aside0.mk hC2
          have hlw := World.block_lt_of_cell? w _ hxw
          have hx := (HB.out.cell hlw).trans hxw
          have HXR := Aside0.mk (And.intro hlw hxw)
          have HLC := Aside0.mk hlc
          clear hacc hn1 hal hsn HF hrd hC2 hxw hlw
          go_wp2
          clear hX hx hlc
          obtain ⟨gk0, hgk0⟩ : ∃ m, gk = m := ⟨_, rfl⟩
          rw [hgk0] at hgk
          go_loopg [3, 5] c.length (fun gg v3 v5 wr2 => ∃ (jj : Nat) (v : Value), v3 = v ∧ v5 = .int .i64 jj ∧ jj ≤ c.length ∧ c.length - jj ≤ gg ∧ Aside0 (Own wr2 (g + 1) v (acc ++ (c.take jj).flatMap litT)) ∧ Aside0 (wr2.cell? ⟨g, 1, none⟩ = some (.slice (some ad) l0_1.length c0_1)) ∧ Aside0 (g + 1 ≤ wr2.heap.size) ∧ Aside0 (Below w.heap.size w wr2))
          case atStart => exact ⟨0, _, rfl, rfl, Nat.zero_le _, by omega, ⟨by rw [List.take_zero, List.flatMap_nil, List.append_nil]; exact HO.out⟩, HX, HG, HB⟩
          case round =>
            clear HO HX HG
            obtain ⟨jj, v, rfl, rfl, hj, hgj, HO, HX, HG, HB2⟩ := hrel
            have hX := HX.out
            have hx := (HB2.out.cell HXR.out.1).trans HXR.out.2
            by_cases hlt2 : jj < c.length
            · have hltj : (jj : Int) < (c.length : Int) := by omega
              have h0j : (0 : Int) ≤ (jj : Int) := by omega
              obtain ⟨ae, ea2, hxe⟩ := Kd.at_int (Kd.C_below HC2.out HB2.out) (jj : Int) h0j hltj
              subst ea2
              rw [rd_of c jj hlt2, Int.toNat_natCast] at hxe
              have hsm := HCS.out.2 _ (List.getElem_mem hlt2)
              have HF := Aside0.mk (flat_snoc litT c jj _ (List.getElem?_eq_getElem hlt2))
              have hn3 := flat_le litT 22 (c.take jj) (fun x hx => litT_le (HCS.out.2 x (List.mem_of_mem_take hx)))
              have HN2 := Aside0.mk (litT_le hsm)
              generalize c[jj] = x at hxe hsm HF HN2
              have ew2 : IntKind.i64.wrap ((jj : Int) + 1) = ((jj + 1 : Nat) : Int) := IntWalk.i64_in _ (by have := HCS.out.1; omega)
              have hcall := digits_calls x wr hsm
              obtain ⟨ac2, hac2⟩ : ∃ ac2, acc ++ (c.take jj).flatMap litT = ac2 := ⟨_, rfl⟩
              have hal2 : ac2.length ≤ 200000 := by
                rw [← hac2, List.length_append]
                have h1 : (c.take jj).length ≤ 12 := by rw [List.length_take]; have := HCS.out.1; omega
                have := HN.out
                omega
              have hsn2 : acc ++ (c.take (jj + 1)).flatMap litT = ac2 ++ litT x := by rw [HF.out, ← List.append_assoc, hac2]
              rw [hac2] at HO
              have HSN2 := Aside0.mk hsn2
              have HAL2 := Aside0.mk hal2
              have e1 := sB_lit x
              have n1 : (sB (Lib.itoa x)).size + 1 ≤ 9223372036854775807 := by have := HN2.out; simp only [litT, List.length_append, List.length_cons, List.length_nil] at this; rw [sB_size]; omega
              clear hac2 hsn2 hal2 hn3 hsm HF
              go_wp2_with (first
                | (go_at_call 34; refine hcall.mono ?_; rintro e w5 ⟨rfl, hb⟩; clear hcall; have HO5 := Aside0.mk (HO.out.below hb); have HB5 := Aside0.mk (HB2.out.trans (hb.mono HB2.out.size)); have HX5 := Aside0.mk ((hb.cell (p := ⟨g, 1, none⟩) (Nat.lt_of_succ_le HG.out)).trans HX.out); have HG5 := Aside0.mk (Nat.le_trans HG.out hb.size); clear hb hX hx hxe HB2 HX HG HO)
                | ((with_reducible refine gate_builtin (b := .append) (xs := #[.tmp 35, .tmp 45]) rfl ?_); at_builtin; refine Own.step rfl (.tmp 35) (.tmp 45) 44 9 rfl Tryd.underlying44 Tryd.underlying9 (g + 1) _ ac2 rfl HO5.out (litT x) rfl (by have := HAL2.out; have := HN2.out; omega) HG5.out ?_; intro v1 w6 ho hb; have HO6 := Aside0.mk ho; have HB6 := Aside0.mk (HB5.out.trans (hb.mono (by omega))); have HX6 := Aside0.mk ((hb.cell (p := ⟨g, 1, none⟩) (Nat.lt_succ_self g)).trans HX5.out); have HG6 := Aside0.mk (Nat.le_trans HG5.out hb.size); clear hb ho))
              go_roundg (gk - 1)
              case measure => omega
              case rel => exact ⟨jj + 1, _, rfl, rfl, by omega, by omega, ⟨by rw [HSN2.out]; exact HO6.out⟩, HX6, HG6, HB6⟩
            · obtain rfl : jj = c.length := by omega
              rw [List.take_length] at HO
              have hn3 := flat_le litT 22 c (fun x hx => litT_le (HCS.out.2 x hx))
              obtain ⟨ac2, hac2⟩ : ∃ ac2, acc ++ c.flatMap litT = ac2 := ⟨_, rfl⟩
              have HAL2 := Aside0.mk (show ac2.length ≤ 200000 by rw [← hac2, List.length_append]; have := HN.out; have := HCS.out.1; omega)
              have hsn2 : hT ++ (l0_1.take (kk + 1)).flatMap clauseT = ac2 ++ [48, 10] := by rw [HSN.out, clauseT, ← List.append_assoc, hac2]
              have HSN2 := Aside0.mk hsn2
              rw [hac2] at HO
              clear hac2 hn3 hsn2
              have HOq := HO
              clear HO
              go_wp2_with ((with_reducible refine gate_builtin (b := .append) (xs := #[.tmp 47, .const (.string ⟨#[48, 10]⟩)]) rfl ?_); at_builtin; refine Own.step rfl (.tmp 47) (.const (.string ⟨#[48, 10]⟩)) 44 9 rfl Tryd.underlying44 Tryd.underlying9 (g + 1) _ ac2 rfl HOq.out [48, 10] rfl (by have := HAL2.out; simp only [List.length_cons, List.length_nil]; omega) HG.out ?_; intro v1 w6 ho hb; have HO6 := Aside0.mk ho; have HB6 := Aside0.mk (HB2.out.trans (hb.mono (by omega))); have HX6 := Aside0.mk ((hb.cell (p := ⟨g, 1, none⟩) (Nat.lt_succ_self g)).trans HX.out); have HG6 := Aside0.mk (Nat.le_trans HG.out hb.size); clear hb ho)
              go_roundg (gk0 - 1)
              case measure => omega
              case rel => exact ⟨kk + 1, _, rfl, rfl, by omega, by omega, ⟨by rw [HSN2.out]; exact HO6.out⟩, HX6, HG6, HB6⟩
        · obtain rfl : kk = l0_1.length := by omega
          rw [List.take_length] at HO
          have hcb := conv_back HO.out
          rw [← HTX.out] at hcb
          go_wp2
          go_ret
          exact ⟨rfl, HB.out⟩

/-! ### spec_DimacsText: function 6 -/
def spec_DimacsText.f (k : Nat) (a0_0 : Int) (l0_1 : List (List Int)) : Option (ByteArray × Int) := (spec_CnfOK.f k a0_0 l0_1).bind fun t122 => (if t122 = true then ((spec_l01Text.f a0_0 l0_1).bind fun t123 => (some (t123, 0))) else (some ((⟨#[]⟩ : ByteArray), 1)))
theorem spec_DimacsText.mono : ∀ a0 a1 k, LeO (spec_DimacsText.f k a0 a1) (spec_DimacsText.f (k + 1) a0 a1) := by
  intro a0 a1 k
  unfold spec_DimacsText.f
  repeat' first
      | (with_reducible exact spec_CnfOK.mono _ _ _)
      | (with_reducible exact LeO.refl _)
      | (with_reducible exact LeO.none _)
      | (with_reducible refine LeO.ite ?_ ?_)
      | (with_reducible refine LeO.bind ?_ (fun _ => ?_))
      | exact spec_CnfOK.mono _ _ _
      | exact LeO.none _
      | refine LeO.ite ?_ ?_
      | refine LeO.bind ?_ (fun _ => ?_)
set_option maxHeartbeats 8000000 in
set_option maxRecDepth 100000 in
theorem spec_DimacsText.calls (k : Nat) (a0_0 : Int) (A0_1 : Option Addr) (c0_1 : Nat) (l0_1 : List (List Int)) (r1 : ByteArray) (r2 : Int) (w : World) (hr0_1 : Kd.C (Kd.slice 3 (Kd.int .i64)) w A0_1 l0_1.length l0_1) (hc0_1 : l0_1.length ≤ c0_1) (h : spec_DimacsText.f k a0_0 l0_1 = some (r1, r2)) :
    Calls Tryd.prog 6 #[.agg #[.int .i64 a0_0, .slice A0_1 l0_1.length c0_1]] w fun e w' => e = .returned (.tuple #[.string r1, .int .i64 r2]) ∧ Below w.heap.size w w' := by
  have hu28 := Tryd.underlying28
  have HR0_1 := Aside0.mk hr0_1
  have HC0_1 := Aside0.mk hc0_1
  clear hr0_1 hc0_1
  have HB := Aside0.mk (Below.refl w.heap.size w)
  have H : ((spec_CnfOK.f k a0_0 l0_1).bind fun t122 => (if t122 = true then ((spec_l01Text.f a0_0 l0_1).bind fun t123 => (some (t123, 0))) else (some ((⟨#[]⟩ : ByteArray), 1)))) = some (r1, r2) := h
  clear h
  replace H := Option.bind_eq_some_iff.mp H
  obtain ⟨t122, A20, H⟩ := H
  replace H : (if t122 = true then ((spec_l01Text.f a0_0 l0_1).bind fun t123 => (some (t123, 0))) else (some ((⟨#[]⟩ : ByteArray), 1))) = some (r1, r2) := H
  have A2 := Aside0.mk A20
  clear A20
  by_cases c3 : t122 = true
  · subst c3
    have H1 : ((spec_l01Text.f a0_0 l0_1).bind fun t123 => (some (t123, 0))) = some (r1, r2) := by rw [if_pos rfl] at H; exact H
    clear H
    have H := H1
    clear H1
    replace H := Option.bind_eq_some_iff.mp H
    obtain ⟨t123, A40, H⟩ := H
    replace H : (some (t123, 0)) = some (r1, r2) := H
    have A4 := Aside0.mk A40
    clear A40
    simp only [Option.some.injEq, Prod.mk.injEq] at H
    obtain ⟨rfl, rfl⟩ := H
    go_enter Tryd.func6, Tryd.ntmps6
    go_wp2_with (first | ((with_reducible refine gate_dst (N := 1) rfl ?_); refine box_event ?hg (N := 1) ?hd (cs := #[.int .i64 a0_0, .slice A0_1 l0_1.length c0_1]) (t := 28) ?hr ?_; (case hd => rfl); (case hg => rfl); (case hr => first | (go_simp; done) | (go_simp; rfl)); intro gb121 hg w5 hbox hb; have n0_ := Aside0.mk (below_step (by repeat (first | (with_reducible first | exact HB.out | apply below_alloc | apply pw_below_drewN | apply below_drew1) | exact HB.out)) hb); have n1_ := Aside0.mk (hbox); have n2_ := Aside0.mk ((by rw [hg]; exact (below_size (by repeat (first | (with_reducible first | exact HB.out | apply below_alloc | apply pw_below_drewN | apply below_drew1) | exact HB.out))) : w.heap.size ≤ gb121)); have n3_ := Aside0.mk ((by rw [hg]; exact (below_size (by repeat (first | (with_reducible first | exact HB.out | apply below_alloc | apply pw_below_drewN | apply below_drew1) | exact HB.out))) : w.heap.size ≤ gb121)); clear HB; have HB := n0_; have BK121 := n1_; have GW121 := n2_; have GE121 := n3_; clear n0_ n1_ n2_ n3_; clear hb hbox hg; have hcz6_0 : w5.cell? ⟨gb121, 0, none⟩ = some (.int .i64 a0_0) := (blk_cell BK121.out 0).trans rfl; have hcz6_1 : w5.cell? ⟨gb121, 1, none⟩ = some (.slice A0_1 l0_1.length c0_1) := (blk_cell BK121.out 1).trans rfl; have hfz6_0 := blk_frozen BK121.out 0; have hfz6_1 := blk_frozen BK121.out 1) | ((with_reducible refine gate_callee (f := 16) rfl ?_); refine goesL_ (some 5) rfl rfl Tryd.func16 (by kernel_rfl) rfl #[.agg #[.int .i64 a0_0, .slice A0_1 l0_1.length c0_1]] rfl (by (try simp only [List.map_toArray, List.map_cons, List.map_nil]); first | done | rfl | (simp only [List.length_drop, List.length_take]; rfl)) ?_; (with_reducible refine (spec_CnfOK.calls k a0_0 _ _ l0_1 true _ ?side1 ?side2 A2.out).mono ?_); (case side1 => repeat (first | exact (Kd.C_below HR0_1.out HB.out) | (with_reducible refine Kd.C_alloc ?_ _) | (with_reducible refine Kd.C_drewN ?_ _) | (with_reducible refine Kd.C_drew ?_))); (case side2 => exact HC0_1.out); rintro e w7 ⟨rfl, hb⟩; refine ⟨_, rfl, ?_⟩; have n0_ := Aside0.mk (blk_below (g := gb121) (o := .cells #[.int .i64 a0_0, .slice A0_1 l0_1.length c0_1] 28 (0, 0)) (by (with_reducible repeat (first | refine blk_drewN ?_ _ | refine blk_drew ?_ | refine blk_alloc ?_ _)); exact BK121.out) hb); have n1_ := Aside0.mk (below_step (by repeat (first | (with_reducible first | exact HB.out | apply below_alloc | apply pw_below_drewN | apply below_drew1 | refine below_set ?_ GE121.out) | exact HB.out)) hb); clear BK121; clear HB; have BK121 := n0_; have HB := n1_; clear n0_ n1_; (try clear hb); (try clear hb2); (try clear hk); (try clear hi); have hcz8_0 : w7.cell? ⟨gb121, 0, none⟩ = some (.int .i64 a0_0) := (blk_cell BK121.out 0).trans rfl; have hcz8_1 : w7.cell? ⟨gb121, 1, none⟩ = some (.slice A0_1 l0_1.length c0_1) := (blk_cell BK121.out 1).trans rfl; have hfz8_0 := blk_frozen BK121.out 0; have hfz8_1 := blk_frozen BK121.out 1) | ((with_reducible refine gate_callee (f := 17) rfl ?_); refine goesL_ (some 8) rfl rfl Tryd.func17 (by kernel_rfl) rfl #[.agg #[.int .i64 a0_0, .slice A0_1 l0_1.length c0_1]] rfl (by (try simp only [List.map_toArray, List.map_cons, List.map_nil]); first | done | rfl | (simp only [List.length_drop, List.length_take]; rfl)) ?_; (with_reducible refine (spec_l01Text.calls a0_0 _ _ l0_1 t123 _ ?side1 ?side2 A4.out).mono ?_); (case side1 => repeat (first | exact (Kd.C_below HR0_1.out HB.out) | (with_reducible refine Kd.C_alloc ?_ _) | (with_reducible refine Kd.C_drewN ?_ _) | (with_reducible refine Kd.C_drew ?_))); (case side2 => exact HC0_1.out); rintro e w9 ⟨rfl, hb⟩; refine ⟨_, rfl, ?_⟩; have n0_ := Aside0.mk (blk_below (g := gb121) (o := .cells #[.int .i64 a0_0, .slice A0_1 l0_1.length c0_1] 28 (0, 0)) (by (with_reducible repeat (first | refine blk_drewN ?_ _ | refine blk_drew ?_ | refine blk_alloc ?_ _)); exact BK121.out) hb); have n1_ := Aside0.mk (below_step (by repeat (first | (with_reducible first | exact HB.out | apply below_alloc | apply pw_below_drewN | apply below_drew1 | refine below_set ?_ GE121.out) | exact HB.out)) hb); clear BK121; clear HB; have BK121 := n0_; have HB := n1_; clear n0_ n1_; (try clear hb); (try clear hb2); (try clear hk); (try clear hi)))
    go_ret2
    exact ⟨by first | rfl | (simp [errW_none, errW_some] <;> rfl) | (simp [*, errW_none, errW_some] <;> rfl), by repeat (first | (with_reducible first | exact HB.out | apply below_alloc | apply pw_below_drewN | apply below_drew1 | refine below_set ?_ GE121.out) | exact HB.out)⟩
  · replace c3 := Bool.eq_false_iff.mpr c3
    subst c3
    have H1 : (some ((⟨#[]⟩ : ByteArray), 1)) = some (r1, r2) := by rw [if_neg (show ¬ (false = true) by decide)] at H; exact H
    clear H
    have H := H1
    clear H1
    simp only [Option.some.injEq, Prod.mk.injEq] at H
    obtain ⟨rfl, rfl⟩ := H
    go_enter Tryd.func6, Tryd.ntmps6
    go_wp2_with (first | ((with_reducible refine gate_dst (N := 1) rfl ?_); refine box_event ?hg (N := 1) ?hd (cs := #[.int .i64 a0_0, .slice A0_1 l0_1.length c0_1]) (t := 28) ?hr ?_; (case hd => rfl); (case hg => rfl); (case hr => first | (go_simp; done) | (go_simp; rfl)); intro gb121 hg w10 hbox hb; have n0_ := Aside0.mk (below_step (by repeat (first | (with_reducible first | exact HB.out | apply below_alloc | apply pw_below_drewN | apply below_drew1) | exact HB.out)) hb); have n1_ := Aside0.mk (hbox); have n2_ := Aside0.mk ((by rw [hg]; exact (below_size (by repeat (first | (with_reducible first | exact HB.out | apply below_alloc | apply pw_below_drewN | apply below_drew1) | exact HB.out))) : w.heap.size ≤ gb121)); have n3_ := Aside0.mk ((by rw [hg]; exact (below_size (by repeat (first | (with_reducible first | exact HB.out | apply below_alloc | apply pw_below_drewN | apply below_drew1) | exact HB.out))) : w.heap.size ≤ gb121)); clear HB; have HB := n0_; have BK121 := n1_; have GW121 := n2_; have GE121 := n3_; clear n0_ n1_ n2_ n3_; clear hb hbox hg; have hcz11_0 : w10.cell? ⟨gb121, 0, none⟩ = some (.int .i64 a0_0) := (blk_cell BK121.out 0).trans rfl; have hcz11_1 : w10.cell? ⟨gb121, 1, none⟩ = some (.slice A0_1 l0_1.length c0_1) := (blk_cell BK121.out 1).trans rfl; have hfz11_0 := blk_frozen BK121.out 0; have hfz11_1 := blk_frozen BK121.out 1) | ((with_reducible refine gate_callee (f := 16) rfl ?_); refine goesL_ (some 5) rfl rfl Tryd.func16 (by kernel_rfl) rfl #[.agg #[.int .i64 a0_0, .slice A0_1 l0_1.length c0_1]] rfl (by (try simp only [List.map_toArray, List.map_cons, List.map_nil]); first | done | rfl | (simp only [List.length_drop, List.length_take]; rfl)) ?_; (with_reducible refine (spec_CnfOK.calls k a0_0 _ _ l0_1 false _ ?side1 ?side2 A2.out).mono ?_); (case side1 => repeat (first | exact (Kd.C_below HR0_1.out HB.out) | (with_reducible refine Kd.C_alloc ?_ _) | (with_reducible refine Kd.C_drewN ?_ _) | (with_reducible refine Kd.C_drew ?_))); (case side2 => exact HC0_1.out); rintro e w12 ⟨rfl, hb⟩; refine ⟨_, rfl, ?_⟩; have n0_ := Aside0.mk (blk_below (g := gb121) (o := .cells #[.int .i64 a0_0, .slice A0_1 l0_1.length c0_1] 28 (0, 0)) (by (with_reducible repeat (first | refine blk_drewN ?_ _ | refine blk_drew ?_ | refine blk_alloc ?_ _)); exact BK121.out) hb); have n1_ := Aside0.mk (below_step (by repeat (first | (with_reducible first | exact HB.out | apply below_alloc | apply pw_below_drewN | apply below_drew1 | refine below_set ?_ GE121.out) | exact HB.out)) hb); clear BK121; clear HB; have BK121 := n0_; have HB := n1_; clear n0_ n1_; (try clear hb); (try clear hb2); (try clear hk); (try clear hi)))
    go_ret2
    exact ⟨by first | rfl | (simp [errW_none, errW_some] <;> rfl) | (simp [*, errW_none, errW_some] <;> rfl), by repeat (first | (with_reducible first | exact HB.out | apply below_alloc | apply pw_below_drewN | apply below_drew1 | refine below_set ?_ GE121.out) | exact HB.out)⟩

/-! ### laws_toIntS: function 35 -/
def laws_toIntS.l0 : Nat → List Int → List Int → Int → Option (List Int)
  | 0, _, _, _ => none
  | k + 1, x0, x3, x4 => if x4 < (x0.length : Int) then (if 0 ≤ x4 then (if x4 < (x3.length : Int) then (laws_toIntS.l0 k x0 (x3.set (x4 : Int).toNat (rd x0 x4)) (wrap64 (x4 + 1))) else (none)) else (none)) else (some x3)
def laws_toIntS.f (k : Nat) (l0 : List Int) : Option (List Int) := if 0 ≤ (l0.length : Int) then (if ((l0.length : Int) : Int).toNat ≤ 35184372088832 then (laws_toIntS.l0 k l0 (List.replicate ((l0.length : Int) : Int).toNat 0) 0) else (none)) else (none)
theorem laws_toIntS.mono_l : ∀ k, (∀ y0 y1 y2, LeO (laws_toIntS.l0 k y0 y1 y2) (laws_toIntS.l0 (k + 1) y0 y1 y2))
  | 0 => fun _ _ _ r h => by simp [laws_toIntS.l0] at h
  | k + 1 => by
    have ih0 := laws_toIntS.mono_l k
    · intro y0 y1 y2
      unfold laws_toIntS.l0
      repeat' first
      | (with_reducible exact ih0 _ _ _)
      | (with_reducible exact LeO.refl _)
      | (with_reducible exact LeO.none _)
      | (with_reducible refine LeO.ite ?_ ?_)
      | (with_reducible refine LeO.bind ?_ (fun _ => ?_))
      | exact ih0 _ _ _
      | exact LeO.none _
      | refine LeO.ite ?_ ?_
      | refine LeO.bind ?_ (fun _ => ?_)
theorem laws_toIntS.mono : ∀ a0 k, LeO (laws_toIntS.f k a0) (laws_toIntS.f (k + 1) a0) := by
  intro a0 k
  have ih0 := laws_toIntS.mono_l k
  unfold laws_toIntS.f
  repeat' first
      | (with_reducible exact ih0 _ _ _)
      | (with_reducible exact LeO.refl _)
      | (with_reducible exact LeO.none _)
      | (with_reducible refine LeO.ite ?_ ?_)
      | (with_reducible refine LeO.bind ?_ (fun _ => ?_))
      | exact ih0 _ _ _
      | exact LeO.none _
      | refine LeO.ite ?_ ?_
      | refine LeO.bind ?_ (fun _ => ?_)
set_option maxHeartbeats 8000000 in
set_option maxRecDepth 100000 in
theorem laws_toIntS.calls (k : Nat) (A0 : Option Addr) (c0 : Nat) (l0 : List Int) (r : List Int) (w : World) (hr0 : Kd.C (Kd.int .i64) w A0 l0.length l0) (hc0 : l0.length ≤ c0) (h : laws_toIntS.f k l0 = some r) :
    Calls Tryd.prog 35 #[.slice A0 l0.length c0] w fun e w' => ∃ v0_ : Value, e = .returned (v0_) ∧ Kd.R (Kd.int .i64) 3 w' w.heap.size (fun _ => True) v0_ r ∧ Below w.heap.size w w' := by
  have HR0 := Aside0.mk hr0
  have HC0 := Aside0.mk hc0
  clear hr0 hc0
  have HB := Aside0.mk (Below.refl w.heap.size w)
  have H : (if 0 ≤ (l0.length : Int) then (if ((l0.length : Int) : Int).toNat ≤ 35184372088832 then (laws_toIntS.l0 k l0 (List.replicate ((l0.length : Int) : Int).toNat 0) 0) else (none)) else (none)) = some r := h
  clear h
  by_cases c2 : 0 ≤ (l0.length : Int)
  · rw [if_pos c2] at H
    have c2b0 := eq_true c2
    have c2b1 : decide (0 ≤ (l0.length : Int)) = true := decide_eq_true c2
    clear c2
    by_cases c3 : ((l0.length : Int) : Int).toNat ≤ 35184372088832
    · rw [if_pos c3] at H
      have c3b0 := eq_true c3
      have c3b1 : decide (((l0.length : Int) : Int).toNat ≤ 35184372088832) = true := decide_eq_true c3
      clear c3
      obtain ⟨y124, hy124⟩ : ∃ y_ : List Int, y_ = (List.replicate ((l0.length : Int) : Int).toNat 0) := ⟨_, rfl⟩
      replace H : (laws_toIntS.l0 k l0 y124 0) = some r := by first | (rw [hy124]; with_reducible exact H) | (have H2_ := (Option.bind_some _ _).symm.trans H; rw [hy124]; with_reducible exact H2_) | (have H2_ := (Option.bind_some _ _).symm.trans H; with_reducible exact H2_) | with_reducible exact H | (rw [hy124]; exact H) | exact H
      have Ny124 := Aside0.mk hy124
      clear hy124
      have H' := Aside0.mk H
      clear H
      go_enter Tryd.func35, Tryd.ntmps35
      go_wp2_with (first | ((with_reducible refine gate_dst (N := 7) rfl ?_); refine Kd.R_make (Kd.int .i64) _ 3 rfl (N := 7) rfl 52 _ _ rfl (l0.length : Int) rfl rfl Tryd.underlying52 (.int .i64 0) 8 info3 rfl (by decide) (by omega) 0 (ok := fun _ => True) (okp := fun _ => True) rfl (fun _ hk => hk) trivial (of_decide_eq_true (by first | (with_reducible assumption) | assumption)) (Nat.le_trans (Nat.mul_le_mul_right _ (of_decide_eq_true (by first | (with_reducible assumption) | assumption) : (l0.length : Int).toNat ≤ 35184372088832)) (by omega)) (Below.refl _ _) (Nat.le_refl _) ?_; intro v125 w4 ho5 hb hg_ hnew_; clear hg_ hnew_; (first | rw [← Ny124.out] at ho5 | (simp only [Int.reduceToNat] at ho5; rw [← Ny124.out] at ho5)); have n0_ := Aside0.mk (Kd.R_lower ho5 (below_size (by repeat (first | (with_reducible first | exact HB.out | apply below_alloc | apply pw_below_drewN | apply below_drew1) | exact HB.out)))); have n1_ := Aside0.mk (below_step (by repeat (first | (with_reducible first | exact HB.out | apply below_alloc | apply pw_below_drewN | apply below_drew1) | exact HB.out)) hb); clear HB; have HO126 := n0_; have HB := n1_; clear n0_ n1_; clear hb ho5))
      go_loopg [4] k (fun kq v4 w' => ∃ (x3_1 : List Int) (x4_1 : Int), v4 = .int .i64 x4_1 ∧ Aside0 (laws_toIntS.l0 kq l0 x3_1 x4_1 = some r) ∧ Aside0 (kq ≤ k) ∧ Aside0 (Kd.R (Kd.int .i64) 3 w' w.heap.size (fun _ => True) v125 x3_1) ∧ Aside0 (Below w.heap.size w w'))
      case atStart => exact ⟨(y124), (0), (by first | rfl | (simp; done) | (simp [*]; done)), H', ⟨Nat.le_refl _⟩, ⟨by (with_reducible repeat (first | apply Kd.R_alloc | apply Kd.R_drewN | apply Kd.R_drew)); exact HO126.out⟩, ⟨by repeat (first | (with_reducible first | exact HB.out | apply below_alloc | apply pw_below_drewN | apply below_drew1) | exact HB.out)⟩⟩
      case round =>
        clear H'
        try clear c2
        try clear c2b0
        try clear c2b1
        try clear p2
        try clear c3
        try clear c3b0
        try clear c3b1
        obtain ⟨x3_1, x4_1, rfl, HA, HK1, HO_3, HB⟩ := hrel
        cases gk with
        | zero => exact absurd HA.out (by simp [laws_toIntS.l0])
        | succ k1 =>
          have H := HA.out
          clear HA
          simp only [laws_toIntS.l0] at H
          by_cases c6 : x4_1 < (l0.length : Int)
          · rw [if_pos c6] at H
            have c6b0 : decide (x4_1 < (l0.length : Int)) = true := decide_eq_true c6
            clear c6
            by_cases c7 : 0 ≤ x4_1
            · rw [if_pos c7] at H
              have c7b0 : decide (0 ≤ x4_1) = true := decide_eq_true c7
              clear c7
              by_cases c8 : x4_1 < (x3_1.length : Int)
              · rw [if_pos c8] at H
                have c8b0 : decide (x4_1 < (x3_1.length : Int)) = true := decide_eq_true c8
                clear c8
                obtain ⟨y128, hy128⟩ : ∃ y_ : List Int, y_ = (x3_1.set (x4_1 : Int).toNat (rd l0 x4_1)) := ⟨_, rfl⟩
                replace H : (laws_toIntS.l0 k1 l0 y128 (wrap64 (x4_1 + 1))) = some r := by first | (rw [hy128]; with_reducible exact H) | (have H2_ := (Option.bind_some _ _).symm.trans H; rw [hy128]; with_reducible exact H2_) | (have H2_ := (Option.bind_some _ _).symm.trans H; with_reducible exact H2_) | with_reducible exact H | (rw [hy128]; exact H) | exact H
                have Ny128 := Aside0.mk hy128
                clear hy128
                have H' := Aside0.mk H
                clear H
                have p127 : 0 ≤ (x4_1 : Int) := of_decide_eq_true (by first | (with_reducible assumption) | assumption)
                have q127 : x4_1 < (l0.length : Int) := of_decide_eq_true (by first | (with_reducible assumption) | assumption)
                obtain ⟨ad127, e127, hx127_0⟩ := Kd.at_int HR0.out x4_1 p127 q127
                cases e127
                replace hx127_0 := (HB.out.cell (World.block_lt_of_cell? w _ hx127_0)).trans hx127_0
                replace p127 := eq_true p127
                replace q127 := eq_true q127
                have p9 : 0 ≤ (x4_1 : Int) := of_decide_eq_true (by first | (with_reducible assumption) | assumption)
                have q9 : (x4_1 : Int) < ((x3_1.length : Int) : Int) := of_decide_eq_true (by first | (with_reducible assumption) | assumption)
                obtain ⟨go9, co9, eo9, gb9, gl9, cl9, HG9⟩ := Kd.R_form HO_3.out (by omega)
                (first | cases eo9 | (injection eo9 with ea_ en_ ec_; (first | subst ea_ | (injection ea_ with ea_; subst ea_)); subst ec_; clear en_))
                have GB9 := Aside0.mk gb9
                have GG9 := Aside0.mk HG9
                clear gb9 gl9 HG9
                obtain ⟨hx9_0, hf9_0⟩ := Kd.R_celln 0 HO_3.out (x4_1 : Int) p9 q9
                replace p9 := eq_true p9
                replace q9 := eq_true q9
                have HP10 := Kd.R_putg HO_3.out (x4_1 : Int) (rd l0 x4_1)
                go_wp2_with (first | ((with_reducible refine gate_store (t := 3) (p := 20) rfl ?_); refine store_event (t := 3) (p := 20) (v := ?vo_w11) (w1 := (wr.setCell ⟨go9, (x4_1 : Int).toNat, none⟩ (.int .i64 (rd l0 x4_1)))) ?hg ?ho ?hn ?hr ?_; (case ho => rfl); (case hg => rfl); (case hn => rfl); (case hr => first | (go_simp; done) | (go_simp; rfl)); intro w11 hw; have hg : wr.grownBy w11 (some go9) := (by rw [hw]; exact HP10.2); have hp_ : Kd.R (Kd.int .i64) 3 w11 w.heap.size (fun _ => True) (.slice (some ⟨go9, 0, none⟩) x3_1.length co9) y128 := (by rw [hw, Ny128.out]; exact HP10.1); clear HP10; have n0_ := Aside0.mk (hp_); have n1_ := Aside0.mk ((by rw [hw]; exact below_set (HB.out) GB9.out : Below w.heap.size w w11)); clear HO_3; clear HB; have HO_3 := n0_; have HB := n1_; clear n0_ n1_; clear hg hw hp_))
                go_roundg k1
                case measure => have := HK1.out; omega
                case rel => exact ⟨(y128), (wrap64 (x4_1 + 1)), (by first | rfl | (simp; done) | (simp [*]; done)), H', ⟨by have := HK1.out; omega⟩, ⟨by (with_reducible repeat (first | apply Kd.R_alloc | apply Kd.R_drewN | apply Kd.R_drew)); exact HO_3.out⟩, ⟨by repeat (first | (with_reducible first | exact HB.out | apply below_alloc | apply pw_below_drewN | apply below_drew1) | exact HB.out)⟩⟩
              · rw [if_neg c8] at H
                exact absurd H (by simp)
            · rw [if_neg c7] at H
              exact absurd H (by simp)
          · rw [if_neg c6] at H
            have c6b0 : decide (x4_1 < (l0.length : Int)) = false := decide_eq_false c6
            clear c6
            obtain rfl := Option.some.inj H
            go_wp2
            go_ret
            exact ⟨_, by first | rfl | (simp [errW_none, errW_some] <;> rfl) | (simp [*, errW_none, errW_some] <;> rfl), by (with_reducible repeat (first | apply Kd.R_alloc | apply Kd.R_drewN | apply Kd.R_drew)); exact HO_3.out, by repeat (first | (with_reducible first | exact HB.out | apply below_alloc | apply pw_below_drewN | apply below_drew1) | exact HB.out)⟩
    · rw [if_neg c3] at H
      exact absurd H (by simp)
  · rw [if_neg c2] at H
    exact absurd H (by simp)

/-! ### laws_toIntSS: function 18 -/
def laws_toIntSS.l0 : Nat → List (List Int) → List (List Int) → Int → Option ((List (List Int)))
  | 0, _, _, _ => none
  | k + 1, x0, x3, x4 => if x4 < (x0.length : Int) then (if 0 ≤ x4 then ((laws_toIntS.f k (rd_L1 x0 x4)).bind fun t133 => (if x4 < (x3.length : Int) then (laws_toIntSS.l0 k x0 (x3.set (x4 : Int).toNat t133) (wrap64 (x4 + 1))) else (none))) else (none)) else (some x3)
def laws_toIntSS.f (k : Nat) (l0 : List (List Int)) : Option ((List (List Int))) := if 0 ≤ (l0.length : Int) then (if ((l0.length : Int) : Int).toNat ≤ 11728124029610 then (laws_toIntSS.l0 k l0 (List.replicate ((l0.length : Int) : Int).toNat []) 0) else (none)) else (none)
theorem laws_toIntSS.mono_l : ∀ k, (∀ y0 y1 y2, LeO (laws_toIntSS.l0 k y0 y1 y2) (laws_toIntSS.l0 (k + 1) y0 y1 y2))
  | 0 => fun _ _ _ r h => by simp [laws_toIntSS.l0] at h
  | k + 1 => by
    have ih0 := laws_toIntSS.mono_l k
    · intro y0 y1 y2
      unfold laws_toIntSS.l0
      repeat' first
      | (with_reducible exact ih0 _ _ _)
      | (with_reducible exact laws_toIntS.mono _ _)
      | (with_reducible exact LeO.refl _)
      | (with_reducible exact LeO.none _)
      | (with_reducible refine LeO.ite ?_ ?_)
      | (with_reducible refine LeO.bind ?_ (fun _ => ?_))
      | exact ih0 _ _ _
      | exact laws_toIntS.mono _ _
      | exact LeO.none _
      | refine LeO.ite ?_ ?_
      | refine LeO.bind ?_ (fun _ => ?_)
theorem laws_toIntSS.mono : ∀ a0 k, LeO (laws_toIntSS.f k a0) (laws_toIntSS.f (k + 1) a0) := by
  intro a0 k
  have ih0 := laws_toIntSS.mono_l k
  unfold laws_toIntSS.f
  repeat' first
      | (with_reducible exact ih0 _ _ _)
      | (with_reducible exact laws_toIntS.mono _ _)
      | (with_reducible exact LeO.refl _)
      | (with_reducible exact LeO.none _)
      | (with_reducible refine LeO.ite ?_ ?_)
      | (with_reducible refine LeO.bind ?_ (fun _ => ?_))
      | exact ih0 _ _ _
      | exact laws_toIntS.mono _ _
      | exact LeO.none _
      | refine LeO.ite ?_ ?_
      | refine LeO.bind ?_ (fun _ => ?_)
set_option maxHeartbeats 8000000 in
set_option maxRecDepth 100000 in
theorem laws_toIntSS.calls (k : Nat) (A0 : Option Addr) (c0 : Nat) (l0 : List (List Int)) (r : List (List Int)) (w : World) (hr0 : Kd.C (Kd.slice 3 (Kd.int .i64)) w A0 l0.length l0) (hc0 : l0.length ≤ c0) (h : laws_toIntSS.f k l0 = some r) :
    Calls Tryd.prog 18 #[.slice A0 l0.length c0] w fun e w' => ∃ v0_ : Value, e = .returned (v0_) ∧ Kd.S (Kd.slice 3 (Kd.int .i64)) 52 w' w.heap.size (fun _ => True) v0_ r ∧ Below w.heap.size w w' := by
  have HR0 := Aside0.mk hr0
  have HC0 := Aside0.mk hc0
  clear hr0 hc0
  have HB := Aside0.mk (Below.refl w.heap.size w)
  have H : (if 0 ≤ (l0.length : Int) then (if ((l0.length : Int) : Int).toNat ≤ 11728124029610 then (laws_toIntSS.l0 k l0 (List.replicate ((l0.length : Int) : Int).toNat []) 0) else (none)) else (none)) = some r := h
  clear h
  by_cases c2 : 0 ≤ (l0.length : Int)
  · rw [if_pos c2] at H
    have c2b0 := eq_true c2
    have c2b1 : decide (0 ≤ (l0.length : Int)) = true := decide_eq_true c2
    clear c2
    by_cases c3 : ((l0.length : Int) : Int).toNat ≤ 11728124029610
    · rw [if_pos c3] at H
      have c3b0 := eq_true c3
      have c3b1 : decide (((l0.length : Int) : Int).toNat ≤ 11728124029610) = true := decide_eq_true c3
      clear c3
      obtain ⟨y129, hy129⟩ : ∃ y_ : List (List Int), y_ = (List.replicate ((l0.length : Int) : Int).toNat []) := ⟨_, rfl⟩
      replace H : (laws_toIntSS.l0 k l0 y129 0) = some r := by first | (rw [hy129]; with_reducible exact H) | (have H2_ := (Option.bind_some _ _).symm.trans H; rw [hy129]; with_reducible exact H2_) | (have H2_ := (Option.bind_some _ _).symm.trans H; with_reducible exact H2_) | with_reducible exact H | (rw [hy129]; exact H) | exact H
      have Ny129 := Aside0.mk hy129
      clear hy129
      have H' := Aside0.mk H
      clear H
      go_enter Tryd.func18, Tryd.ntmps18
      go_wp2_with (first | ((with_reducible refine gate_dst (N := 7) rfl ?_); refine Kd.S_make (Kd.slice 3 (Kd.int .i64)) _ 52 rfl (N := 7) rfl 22 _ _ rfl (l0.length : Int) rfl rfl Tryd.underlying22 (.slice none 0 0) 24 info52 rfl (by decide) (by omega) [] (ok := fun _ => True) (okp := fun _ => True) ⟨_, rfl, Kd.R_nil _ _ _ _ _⟩ (fun _ hk => hk) trivial (of_decide_eq_true (by first | (with_reducible assumption) | assumption)) (Nat.le_trans (Nat.mul_le_mul_right _ (of_decide_eq_true (by first | (with_reducible assumption) | assumption) : (l0.length : Int).toNat ≤ 11728124029610)) (by omega)) (Below.refl _ _) (Nat.le_refl _) ?_; intro v130 w4 ho5 hb hg_ hnew_; clear hg_ hnew_; (first | rw [← Ny129.out] at ho5 | (simp only [Int.reduceToNat] at ho5; rw [← Ny129.out] at ho5)); have n0_ := Aside0.mk (Kd.S_lower ho5 (below_size (by repeat (first | (with_reducible first | exact HB.out | apply below_alloc | apply pw_below_drewN | apply below_drew1) | exact HB.out)))); have n1_ := Aside0.mk (below_step (by repeat (first | (with_reducible first | exact HB.out | apply below_alloc | apply pw_below_drewN | apply below_drew1) | exact HB.out)) hb); clear HB; have HO131 := n0_; have HB := n1_; clear n0_ n1_; clear hb ho5))
      go_loopg [4] k (fun kq v4 w' => ∃ (x3_1 : List (List Int)) (x4_1 : Int), v4 = .int .i64 x4_1 ∧ Aside0 (laws_toIntSS.l0 kq l0 x3_1 x4_1 = some r) ∧ Aside0 (kq ≤ k) ∧ Aside0 (Kd.S (Kd.slice 3 (Kd.int .i64)) 52 w' w.heap.size (fun _ => True) v130 x3_1) ∧ Aside0 (Below w.heap.size w w'))
      case atStart => exact ⟨(y129), (0), (by first | rfl | (simp; done) | (simp [*]; done)), H', ⟨Nat.le_refl _⟩, ⟨by (with_reducible repeat (first | apply Kd.S_alloc | apply Kd.S_drewN | apply Kd.S_drew)); exact HO131.out⟩, ⟨by repeat (first | (with_reducible first | exact HB.out | apply below_alloc | apply pw_below_drewN | apply below_drew1) | exact HB.out)⟩⟩
      case round =>
        clear H'
        try clear c1
        try clear c2
        try clear c2b0
        try clear c2b1
        try clear p2
        try clear c3
        try clear c3b0
        try clear c3b1
        obtain ⟨x3_1, x4_1, rfl, HA, HK1, HO_3, HB⟩ := hrel
        cases gk with
        | zero => exact absurd HA.out (by simp [laws_toIntSS.l0])
        | succ k1 =>
          have H := HA.out
          clear HA
          simp only [laws_toIntSS.l0] at H
          by_cases c6 : x4_1 < (l0.length : Int)
          · rw [if_pos c6] at H
            have c6b0 : decide (x4_1 < (l0.length : Int)) = true := decide_eq_true c6
            clear c6
            by_cases c7 : 0 ≤ x4_1
            · rw [if_pos c7] at H
              have c7b0 : decide (0 ≤ x4_1) = true := decide_eq_true c7
              clear c7
              replace H := Option.bind_eq_some_iff.mp H
              obtain ⟨t133, A80, H⟩ := H
              replace H : (if x4_1 < (x3_1.length : Int) then (laws_toIntSS.l0 k1 l0 (x3_1.set (x4_1 : Int).toNat t133) (wrap64 (x4_1 + 1))) else (none)) = some r := H
              have A8 := Aside0.mk A80
              clear A80
              by_cases c9 : x4_1 < (x3_1.length : Int)
              · rw [if_pos c9] at H
                have c9b0 : decide (x4_1 < (x3_1.length : Int)) = true := decide_eq_true c9
                clear c9
                obtain ⟨y136, hy136⟩ : ∃ y_ : List (List Int), y_ = (x3_1.set (x4_1 : Int).toNat t133) := ⟨_, rfl⟩
                replace H : (laws_toIntSS.l0 k1 l0 y136 (wrap64 (x4_1 + 1))) = some r := by first | (rw [hy136]; with_reducible exact H) | (have H2_ := (Option.bind_some _ _).symm.trans H; rw [hy136]; with_reducible exact H2_) | (have H2_ := (Option.bind_some _ _).symm.trans H; with_reducible exact H2_) | with_reducible exact H | (rw [hy136]; exact H) | exact H
                have Ny136 := Aside0.mk hy136
                clear hy136
                have H' := Aside0.mk H
                clear H
                have p132 : 0 ≤ (x4_1 : Int) := of_decide_eq_true (by first | (with_reducible assumption) | assumption)
                have q132 : x4_1 < (l0.length : Int) := of_decide_eq_true (by first | (with_reducible assumption) | assumption)
                obtain ⟨ad132, A132_0, c132_0, e132, hx132_0, hl132_0, hi132_0⟩ := at_L1 HR0.out x4_1 p132 q132
                cases e132
                replace hx132_0 := (HB.out.cell (World.block_lt_of_cell? w _ hx132_0)).trans hx132_0
                have HR132_0 := Aside0.mk hi132_0
                have HC132_0 := Aside0.mk hl132_0
                clear hi132_0 hl132_0
                replace p132 := eq_true p132
                replace q132 := eq_true q132
                go_wp2_with (first | ((with_reducible refine gate_callee (f := 35) rfl ?_); refine goesL_ (some 20) rfl rfl Tryd.func35 (by kernel_rfl) rfl #[.slice A132_0 (rd_L1 l0 x4_1).length c132_0] rfl (by (try simp only [List.map_toArray, List.map_cons, List.map_nil]); first | done | rfl | (simp only [List.length_drop, List.length_take]; rfl)) ?_; (with_reducible refine (laws_toIntS.calls k1 _ _ (rd_L1 l0 x4_1) t133 _ ?side1 ?side2 A8.out).mono ?_); (case side1 => repeat (first | exact (Kd.C_below HR132_0.out HB.out) | (with_reducible refine Kd.C_alloc ?_ _) | (with_reducible refine Kd.C_drewN ?_ _) | (with_reducible refine Kd.C_drew ?_))); (case side2 => exact HC132_0.out); rintro e w11 ⟨v134, rfl, ho0, hb⟩; refine ⟨_, rfl, ?_⟩; have n0_ := Aside0.mk (Kd.S_elder' (by (with_reducible repeat (first | apply Kd.S_alloc | apply Kd.S_drewN | apply Kd.S_drew)); exact HO_3.out) (Kd.R_base ho0) hb); have n1_ := Aside0.mk (Kd.R_lower ho0 (below_size (by repeat (first | (with_reducible first | exact HB.out | apply below_alloc | apply pw_below_drewN | apply below_drew1) | exact HB.out)))); have n2_ := Aside0.mk (below_step (by repeat (first | (with_reducible first | exact HB.out | apply below_alloc | apply pw_below_drewN | apply below_drew1) | exact HB.out)) hb); clear HO_3; clear HB; have HO_3 := n0_; have HO135 := n1_; have HB := n2_; clear n0_ n1_ n2_; (try clear hb); (try clear hb2); (try clear hk); (try clear hi); (try clear ho0); have p10 : 0 ≤ (x4_1 : Int) := of_decide_eq_true (by first | (with_reducible assumption) | assumption); have q10 : (x4_1 : Int) < ((x3_1.length : Int) : Int) := of_decide_eq_true (by first | (with_reducible assumption) | assumption); obtain ⟨go10, co10, eo10, gb10, gl10, cl10, HG10⟩ := Kd.S_form HO_3.out (by omega); (first | cases eo10 | (injection eo10 with ea_ en_ ec_; (first | subst ea_ | (injection ea_ with ea_; subst ea_)); subst ec_; clear en_)); have GB10 := Aside0.mk gb10; have GG10 := Aside0.mk HG10; clear gb10 gl10 HG10; obtain ⟨_, ce10, hcl10, hM10, hcc10, hfr10, _, _⟩ := Kd.S_elem HO_3.out [] (x4_1 : Int) p10 q10; obtain ⟨ve10_0, rfl, ge10_0⟩ := hM10; have hx10_0 := hcc10 0 _ rfl; have hf10_0 := hfr10 0; (try simp only [show ((Kd.slice 3 (Kd.int .i64))).sz = 1 from rfl, Nat.mul_one, Nat.add_zero] at hx10_0); (try simp only [show ((Kd.slice 3 (Kd.int .i64))).sz = 1 from rfl, Nat.mul_one, Nat.add_zero] at hf10_0); clear hcl10 hcc10 hfr10; (try clear hM10); replace p10 := eq_true p10; replace q10 := eq_true q10; have n_ := Aside0.mk (Kd.S_mono (ok' := (fun k_ => some k_ ≠ (v134 : Value).ownBlock)) HO_3.out (fun k_ hk => hk.2)); clear HO_3; have HO_3 := n_; clear n_; have HX12 := Aside0.mk (show Kd.S (Kd.slice 3 (Kd.int .i64)) 52 w11 w.heap.size (fun k_ => ((fun _ => True)) k_ ∧ ¬ ((fun k_ => some k_ = (v134 : Value).ownBlock)) k_) (.slice (some ⟨go10, 0, none⟩) x3_1.length co10) x3_1 from (by (with_reducible repeat (first | apply Kd.S_alloc | apply Kd.S_drewN | apply Kd.S_drew)); exact Kd.S_mono HO_3.out (fun k_ hk => ⟨trivial, fun e_ => hk e_⟩))); obtain ⟨oki12, ce12, hcl12, hM12, hcc12, hfr12, hoki12, hH12⟩ := Kd.S_elem HX12.out [] (x4_1 : Int) (of_decide_eq_true (by first | (with_reducible assumption) | assumption)) (by have h_ : (x4_1 : Int) < ((x3_1.length : Int) : Int) := of_decide_eq_true (by first | (with_reducible assumption) | assumption); first | exact h_ | (have e_ := (Kd.S_reads' HO_3.out).1; omega) | simpa using h_); obtain ⟨ve12_0, rfl, ge12_0⟩ := hM12; have HP12 := Kd.S_seg hH12 (of_decide_eq_true (by first | (with_reducible assumption) | assumption)) (by have h_ : (x4_1 : Int) < ((x3_1.length : Int) : Int) := of_decide_eq_true (by first | (with_reducible assumption) | assumption); first | exact h_ | (have e_ := (Kd.S_reads' HO_3.out).1; omega) | simpa using h_) (seg := [v134]) (j := 0) (show 1 ≤ 1 from by decide) (x' := t133) (Kd.M_row (Kd.R_mono (Kd.R_tight rfl (Kd.R_mono (ok' := fun k_ => ((fun _ => True)) k_ ∧ k_ ≠ go10) (Kd.R_apart' (HO135.out) (Kd.S_typed HO_3.out) (by decide)) (fun k_ hk => ⟨trivial, fun e_ => (hk.2) (by rw [e_]; rfl)⟩))) (fun _ h_ => Or.inr (h_)))) (fun _ hk => hk) (fun k_ hk_ => ((Kd.R_mono (ok' := fun k_ => ((fun _ => True)) k_ ∧ k_ ≠ go10) (Kd.R_apart' (HO135.out) (Kd.S_typed HO_3.out) (by decide)) (fun k_ hk => ⟨trivial, fun e_ => (hk.2) (by rw [e_]; rfl)⟩))).1 k_ hk_.symm); have hx12_0 := hcc12 0 _ rfl; (try simp only [show ((Kd.slice 3 (Kd.int .i64))).sz = 1 from rfl, Nat.mul_one, Nat.add_zero] at hx12_0); have hf12_0 := hfr12 0; (try simp only [show ((Kd.slice 3 (Kd.int .i64))).sz = 1 from rfl, Nat.mul_one, Nat.add_zero] at hf12_0); clear hcl12 hcc12 hfr12 hoki12 hH12; (try clear hM12); (try simp only [show ((Kd.slice 3 (Kd.int .i64))).sz = 1 from rfl, Nat.mul_one, Nat.add_zero] at HP12)) | ((with_reducible refine gate_store (t := 52) (p := 21) rfl ?_); refine store_event (t := 52) (p := 21) (v := ?vo_w13) (w1 := (w11.setCell ⟨go10, (x4_1 : Int).toNat, none⟩ (v134))) ?hg ?ho ?hn ?hr ?_; (case ho => rfl); (case hg => rfl); (case hn => rfl); (case hr => first | (go_simp; done) | (go_simp; rfl) | (obtain ⟨_, _, ev_⟩ := Kd.R_slice HO135.out; subst ev_; first | (go_simp; done) | (go_simp; rfl))); intro w13 hw; have hg : w11.grownBy w13 (some go10) := (by rw [hw]; exact HP12.2); have hp_ : Kd.S (Kd.slice 3 (Kd.int .i64)) 52 w13 w.heap.size (fun _ => True) (.slice (some ⟨go10, 0, none⟩) x3_1.length co10) y136 := (by rw [hw, Ny136.out]; exact HP12.1); clear HP12; have n0_ := Aside0.mk (hp_); have n1_ := Aside0.mk ((by rw [hw]; exact below_set (HB.out) GB10.out : Below w.heap.size w w13)); clear HO_3; clear HB; clear HO135; have HO_3 := n0_; have HB := n1_; clear n0_ n1_; clear hg hw hp_))
                go_roundg k1
                case measure => have := HK1.out; omega
                case rel => exact ⟨(y136), (wrap64 (x4_1 + 1)), (by first | rfl | (simp; done) | (simp [*]; done)), H', ⟨by have := HK1.out; omega⟩, ⟨by (with_reducible repeat (first | apply Kd.S_alloc | apply Kd.S_drewN | apply Kd.S_drew)); exact HO_3.out⟩, ⟨by repeat (first | (with_reducible first | exact HB.out | apply below_alloc | apply pw_below_drewN | apply below_drew1) | exact HB.out)⟩⟩
              · rw [if_neg c9] at H
                exact absurd H (by simp)
            · rw [if_neg c7] at H
              exact absurd H (by simp)
          · rw [if_neg c6] at H
            have c6b0 : decide (x4_1 < (l0.length : Int)) = false := decide_eq_false c6
            clear c6
            obtain rfl := Option.some.inj H
            go_wp2
            go_ret
            exact ⟨_, by first | rfl | (simp [errW_none, errW_some] <;> rfl) | (simp [*, errW_none, errW_some] <;> rfl), by (with_reducible repeat (first | apply Kd.S_alloc | apply Kd.S_drewN | apply Kd.S_drew)); exact HO_3.out, by repeat (first | (with_reducible first | exact HB.out | apply below_alloc | apply pw_below_drewN | apply below_drew1) | exact HB.out)⟩
    · rw [if_neg c3] at H
      exact absurd H (by simp)
  · rw [if_neg c2] at H
    exact absurd H (by simp)

/-! ### laws_toCnf: function 7 -/
def laws_toCnf.f (k : Nat) (a0_0 : Int) (l0_1 : List (List Int)) : Option (Int × (List (List Int))) := (laws_toIntSS.f k l0_1).bind fun t140 => (some (a0_0, t140))
theorem laws_toCnf.mono : ∀ a0 a1 k, LeO (laws_toCnf.f k a0 a1) (laws_toCnf.f (k + 1) a0 a1) := by
  intro a0 a1 k
  unfold laws_toCnf.f
  repeat' first
      | (with_reducible exact laws_toIntSS.mono _ _)
      | (with_reducible exact LeO.refl _)
      | (with_reducible exact LeO.none _)
      | (with_reducible refine LeO.ite ?_ ?_)
      | (with_reducible refine LeO.bind ?_ (fun _ => ?_))
      | exact laws_toIntSS.mono _ _
      | exact LeO.none _
      | refine LeO.ite ?_ ?_
      | refine LeO.bind ?_ (fun _ => ?_)
set_option maxHeartbeats 8000000 in
set_option maxRecDepth 100000 in
theorem laws_toCnf.calls (k : Nat) (a0_0 : Int) (A0_1 : Option Addr) (c0_1 : Nat) (l0_1 : List (List Int)) (r1 : Int) (r2 : List (List Int)) (w : World) (hr0_1 : Kd.C (Kd.slice 3 (Kd.int .i64)) w A0_1 l0_1.length l0_1) (hc0_1 : l0_1.length ≤ c0_1) (h : laws_toCnf.f k a0_0 l0_1 = some (r1, r2)) :
    Calls Tryd.prog 7 #[.agg #[.int .i64 a0_0, .slice A0_1 l0_1.length c0_1]] w fun e w' => ∃ v1_ : Value, e = .returned (.agg #[.int .i64 r1, v1_]) ∧ Kd.S (Kd.slice 3 (Kd.int .i64)) 52 w' w.heap.size (fun _ => True) v1_ r2 ∧ Below w.heap.size w w' := by
  have hu24 := Tryd.underlying24
  have hu28 := Tryd.underlying28
  have HR0_1 := Aside0.mk hr0_1
  have HC0_1 := Aside0.mk hc0_1
  clear hr0_1 hc0_1
  have HB := Aside0.mk (Below.refl w.heap.size w)
  have H : ((laws_toIntSS.f k l0_1).bind fun t140 => (some (a0_0, t140))) = some (r1, r2) := h
  clear h
  replace H := Option.bind_eq_some_iff.mp H
  obtain ⟨t140, A20, H⟩ := H
  replace H : (some (a0_0, t140)) = some (r1, r2) := H
  have A2 := Aside0.mk A20
  clear A20
  simp only [Option.some.injEq, Prod.mk.injEq] at H
  obtain ⟨rfl, rfl⟩ := H
  go_enter Tryd.func7, Tryd.ntmps7
  go_wp2_with (first | ((with_reducible refine gate_dst (N := 1) rfl ?_); refine box_event ?hg (N := 1) ?hd (cs := #[.int .i64 a0_0, .slice A0_1 l0_1.length c0_1]) (t := 24) ?hr ?_; (case hd => rfl); (case hg => rfl); (case hr => first | (go_simp; done) | (go_simp; rfl)); intro gb137 hg w3 hbox hb; have n0_ := Aside0.mk (below_step (by repeat (first | (with_reducible first | exact HB.out | apply below_alloc | apply pw_below_drewN | apply below_drew1) | exact HB.out)) hb); have n1_ := Aside0.mk (hbox); have n2_ := Aside0.mk ((by rw [hg]; exact (below_size (by repeat (first | (with_reducible first | exact HB.out | apply below_alloc | apply pw_below_drewN | apply below_drew1) | exact HB.out))) : w.heap.size ≤ gb137)); have n3_ := Aside0.mk ((by rw [hg]; exact (below_size (by repeat (first | (with_reducible first | exact HB.out | apply below_alloc | apply pw_below_drewN | apply below_drew1) | exact HB.out))) : w.heap.size ≤ gb137)); clear HB; have HB := n0_; have BK137 := n1_; have GW137 := n2_; have GE137 := n3_; clear n0_ n1_ n2_ n3_; clear hb hbox hg) | ((with_reducible refine gate_dst (N := 2) rfl ?_); refine box_event ?hg (N := 2) ?hd (cs := #[.int .i64 0, .slice none 0 0]) (t := 28) ?hr ?_; (case hd => rfl); (case hg => rfl); (case hr => first | (go_simp; done) | (go_simp; rfl)); intro gb138 hg w4 hbox hb; have n0_ := Aside0.mk (blk_below (g := gb137) (o := .cells #[.int .i64 a0_0, .slice A0_1 l0_1.length c0_1] 24 (0, 0)) (by (with_reducible repeat (first | refine blk_drewN ?_ _ | refine blk_drew ?_ | refine blk_alloc ?_ _)); exact BK137.out) hb); have n1_ := Aside0.mk (below_step (by repeat (first | (with_reducible first | exact HB.out | apply below_alloc | apply pw_below_drewN | apply below_drew1 | refine below_set ?_ GE137.out) | exact HB.out)) hb); have n2_ := Aside0.mk (hbox); have n3_ := Aside0.mk ((by rw [hg]; exact (below_size (by repeat (first | (with_reducible first | exact HB.out | apply below_alloc | apply pw_below_drewN | apply below_drew1 | refine below_set ?_ GE137.out) | exact HB.out))) : w.heap.size ≤ gb138)); have n4_ := Aside0.mk ((by rw [hg]; exact (below_size (by repeat (first | (with_reducible first | exact HB.out | apply below_alloc | apply pw_below_drewN | apply below_drew1 | refine below_set ?_ GE137.out) | exact HB.out))) : w.heap.size ≤ gb138)); have n5_ := Aside0.mk ((by rw [hg]; exact Nat.ne_of_lt (blk_lt (g := gb137) (o := .cells #[.int .i64 a0_0, .slice A0_1 l0_1.length c0_1] 24 (0, 0)) (by (with_reducible repeat (first | refine blk_drewN ?_ _ | refine blk_drew ?_ | refine blk_alloc ?_ _)); exact BK137.out)) : gb137 ≠ gb138)); have n6_ := Aside0.mk ((by rw [hg]; exact Nat.ne_of_gt (blk_lt (g := gb137) (o := .cells #[.int .i64 a0_0, .slice A0_1 l0_1.length c0_1] 24 (0, 0)) (by (with_reducible repeat (first | refine blk_drewN ?_ _ | refine blk_drew ?_ | refine blk_alloc ?_ _)); exact BK137.out)) : gb138 ≠ gb137)); clear BK137; clear HB; have BK137 := n0_; have HB := n1_; have BK138 := n2_; have GW138 := n3_; have GE138 := n4_; have NB137_138 := n5_; have NB138_137 := n6_; clear n0_ n1_ n2_ n3_ n4_ n5_ n6_; clear hb hbox hg) | ((with_reducible refine gate_dst (N := 3) rfl ?_); refine box_event ?hg (N := 3) ?hd (cs := #[.int .i64 0, .slice none 0 0]) (t := 28) ?hr ?_; (case hd => rfl); (case hg => rfl); (case hr => first | (go_simp; done) | (go_simp; rfl)); intro gb139 hg w5 hbox hb; have n0_ := Aside0.mk (blk_below (g := gb137) (o := .cells #[.int .i64 a0_0, .slice A0_1 l0_1.length c0_1] 24 (0, 0)) (by (with_reducible repeat (first | refine blk_drewN ?_ _ | refine blk_drew ?_ | refine blk_alloc ?_ _)); exact BK137.out) hb); have n1_ := Aside0.mk (blk_below (g := gb138) (o := .cells #[.int .i64 0, .slice none 0 0] 28 (0, 0)) (by (with_reducible repeat (first | refine blk_drewN ?_ _ | refine blk_drew ?_ | refine blk_alloc ?_ _)); exact BK138.out) hb); have n2_ := Aside0.mk (below_step (by repeat (first | (with_reducible first | exact HB.out | apply below_alloc | apply pw_below_drewN | apply below_drew1 | refine below_set ?_ GE137.out | refine below_set ?_ GE138.out) | exact HB.out)) hb); have n3_ := Aside0.mk (hbox); have n4_ := Aside0.mk ((by rw [hg]; exact (below_size (by repeat (first | (with_reducible first | exact HB.out | apply below_alloc | apply pw_below_drewN | apply below_drew1 | refine below_set ?_ GE137.out | refine below_set ?_ GE138.out) | exact HB.out))) : w.heap.size ≤ gb139)); have n5_ := Aside0.mk ((by rw [hg]; exact (below_size (by repeat (first | (with_reducible first | exact HB.out | apply below_alloc | apply pw_below_drewN | apply below_drew1 | refine below_set ?_ GE137.out | refine below_set ?_ GE138.out) | exact HB.out))) : w.heap.size ≤ gb139)); have n6_ := Aside0.mk ((by rw [hg]; exact Nat.ne_of_lt (blk_lt (g := gb137) (o := .cells #[.int .i64 a0_0, .slice A0_1 l0_1.length c0_1] 24 (0, 0)) (by (with_reducible repeat (first | refine blk_drewN ?_ _ | refine blk_drew ?_ | refine blk_alloc ?_ _)); exact BK137.out)) : gb137 ≠ gb139)); have n7_ := Aside0.mk ((by rw [hg]; exact Nat.ne_of_gt (blk_lt (g := gb137) (o := .cells #[.int .i64 a0_0, .slice A0_1 l0_1.length c0_1] 24 (0, 0)) (by (with_reducible repeat (first | refine blk_drewN ?_ _ | refine blk_drew ?_ | refine blk_alloc ?_ _)); exact BK137.out)) : gb139 ≠ gb137)); have n8_ := Aside0.mk ((by rw [hg]; exact Nat.ne_of_lt (blk_lt (g := gb138) (o := .cells #[.int .i64 0, .slice none 0 0] 28 (0, 0)) (by (with_reducible repeat (first | refine blk_drewN ?_ _ | refine blk_drew ?_ | refine blk_alloc ?_ _)); exact BK138.out)) : gb138 ≠ gb139)); have n9_ := Aside0.mk ((by rw [hg]; exact Nat.ne_of_gt (blk_lt (g := gb138) (o := .cells #[.int .i64 0, .slice none 0 0] 28 (0, 0)) (by (with_reducible repeat (first | refine blk_drewN ?_ _ | refine blk_drew ?_ | refine blk_alloc ?_ _)); exact BK138.out)) : gb139 ≠ gb138)); clear BK137; clear BK138; clear HB; have BK137 := n0_; have BK138 := n1_; have HB := n2_; have BK139 := n3_; have GW139 := n4_; have GE139 := n5_; have NB137_139 := n6_; have NB139_137 := n7_; have NB138_139 := n8_; have NB139_138 := n9_; clear n0_ n1_ n2_ n3_ n4_ n5_ n6_ n7_ n8_ n9_; clear hb hbox hg; have hnb6 := NB137_138.out; have hnc6 := NB138_137.out; have hnb7 := NB137_139.out; have hnc7 := NB139_137.out; have hcz8_0 : w5.cell? ⟨gb137, 0, none⟩ = some (.int .i64 a0_0) := (blk_cell BK137.out 0).trans rfl; have hcz8_1 : w5.cell? ⟨gb137, 1, none⟩ = some (.slice A0_1 l0_1.length c0_1) := (blk_cell BK137.out 1).trans rfl; have hfz8_0 := blk_frozen BK137.out 0; have hfz8_1 := blk_frozen BK137.out 1; have hnb9 := NB139_138.out; have hnc9 := NB138_139.out; have hcz10_0 : w5.cell? ⟨gb139, 0, none⟩ = some (.int .i64 0) := (blk_cell BK139.out 0).trans rfl; have hcz10_1 : w5.cell? ⟨gb139, 1, none⟩ = some (.slice none 0 0) := (blk_cell BK139.out 1).trans rfl; have hfz10_0 := blk_frozen BK139.out 0; have hfz10_1 := blk_frozen BK139.out 1) | ((with_reducible refine gate_callee (f := 18) rfl ?_); refine goesL_ (some 9) rfl rfl Tryd.func18 (by kernel_rfl) rfl #[.slice A0_1 l0_1.length c0_1] rfl (by (try simp only [List.map_toArray, List.map_cons, List.map_nil]); first | done | rfl | (simp only [List.length_drop, List.length_take]; rfl)) ?_; (with_reducible refine (laws_toIntSS.calls k _ _ l0_1 t140 _ ?side1 ?side2 A2.out).mono ?_); (case side1 => exact Kd.C_below HR0_1.out (by repeat (first | (with_reducible first | exact HB.out | apply below_alloc | apply pw_below_drewN | apply below_drew1 | refine below_set ?_ GE137.out | refine below_set ?_ GE138.out | refine below_set ?_ GE139.out) | exact HB.out))); (case side2 => exact HC0_1.out); rintro e w11 ⟨v141, rfl, ho0, hb⟩; refine ⟨_, rfl, ?_⟩; have n0_ := Aside0.mk (Kd.S_lower ho0 (below_size (by repeat (first | (with_reducible first | exact HB.out | apply below_alloc | apply pw_below_drewN | apply below_drew1 | refine below_set ?_ GE137.out | refine below_set ?_ GE138.out | refine below_set ?_ GE139.out) | exact HB.out)))); have n1_ := Aside0.mk (blk_below (g := gb137) (o := .cells #[.int .i64 a0_0, .slice A0_1 l0_1.length c0_1] 24 (0, 0)) (by (with_reducible repeat (first | refine blk_drewN ?_ _ | refine blk_drew ?_ | refine blk_alloc ?_ _)); refine blk_far ?_ NB137_139.out _; (with_reducible repeat (first | refine blk_drewN ?_ _ | refine blk_drew ?_ | refine blk_alloc ?_ _)); exact BK137.out) hb); have n2_ := Aside0.mk (blk_below (g := gb138) (o := .cells #[.int .i64 0, .slice none 0 0] 28 (0, 0)) (by (with_reducible repeat (first | refine blk_drewN ?_ _ | refine blk_drew ?_ | refine blk_alloc ?_ _)); refine blk_far ?_ NB138_139.out _; (with_reducible repeat (first | refine blk_drewN ?_ _ | refine blk_drew ?_ | refine blk_alloc ?_ _)); exact BK138.out) hb); have n3_ := Aside0.mk (blk_below (g := gb139) (o := .cells #[.int .i64 a0_0, .slice none 0 0] 28 (0, 0)) (by (with_reducible repeat (first | refine blk_drewN ?_ _ | refine blk_drew ?_ | refine blk_alloc ?_ _)); refine blk_put (cs := #[.int .i64 0, .slice none 0 0]) ?_ 0 _ rfl; (with_reducible repeat (first | refine blk_drewN ?_ _ | refine blk_drew ?_ | refine blk_alloc ?_ _)); exact BK139.out) hb); have n4_ := Aside0.mk (below_step (by repeat (first | (with_reducible first | exact HB.out | apply below_alloc | apply pw_below_drewN | apply below_drew1 | refine below_set ?_ GE137.out | refine below_set ?_ GE138.out | refine below_set ?_ GE139.out) | exact HB.out)) hb); clear BK137; clear BK138; clear BK139; clear HB; have HO142 := n0_; have BK137 := n1_; have BK138 := n2_; have BK139 := n3_; have HB := n4_; clear n0_ n1_ n2_ n3_ n4_; (try clear hb); (try clear hb2); (try clear hk); (try clear hi); (try clear ho0); obtain ⟨Ao12, co12, eo12⟩ := Kd.S_slice HO142.out; subst eo12; have hcz13_0 : w11.cell? ⟨gb139, 0, none⟩ = some (.int .i64 a0_0) := (blk_cell BK139.out 0).trans rfl; have hcz13_1 : w11.cell? ⟨gb139, 1, none⟩ = some (.slice none 0 0) := (blk_cell BK139.out 1).trans rfl; have hfz13_0 := blk_frozen BK139.out 0; have hfz13_1 := blk_frozen BK139.out 1; have hcz14_0 : w11.cell? ⟨gb138, 0, none⟩ = some (.int .i64 0) := (blk_cell BK138.out 0).trans rfl; have hcz14_1 : w11.cell? ⟨gb138, 1, none⟩ = some (.slice none 0 0) := (blk_cell BK138.out 1).trans rfl; have hfz14_0 := blk_frozen BK138.out 0; have hfz14_1 := blk_frozen BK138.out 1))
  refine bodyPost_ret (results_cell_row rfl _ _ gb138 28 #[.int .i64 a0_0, .slice Ao12 t140.length co12] (0, 0) _ rfl (by (with_reducible repeat (first | refine blk_drewN ?_ _ | refine blk_drew ?_ | refine blk_alloc ?_ _)); refine blk_put (cs := #[.int .i64 a0_0, .slice none 0 0]) ?_ 1 _ rfl; (with_reducible repeat (first | refine blk_drewN ?_ _ | refine blk_drew ?_ | refine blk_alloc ?_ _)); refine blk_put (cs := #[.int .i64 0, .slice none 0 0]) ?_ 0 _ rfl; (with_reducible repeat (first | refine blk_drewN ?_ _ | refine blk_drew ?_ | refine blk_alloc ?_ _)); refine blk_far ?_ NB138_139.out _; (with_reducible repeat (first | refine blk_drewN ?_ _ | refine blk_drew ?_ | refine blk_alloc ?_ _)); exact BK138.out) Tryd.underlying28 rfl (by kernel_rfl)) rfl ?_
  exact ⟨_, by first | rfl | (simp [errW_none, errW_some] <;> rfl) | (simp [*, errW_none, errW_some] <;> rfl), by (with_reducible repeat (first | apply Kd.S_alloc | apply Kd.S_drewN | apply Kd.S_drew)); exact Kd.S_mono (Kd.S_far (p := ⟨gb138, 1, none⟩) (Kd.S_far (p := ⟨gb138, 0, none⟩) (Kd.S_far (p := ⟨gb139, 1, none⟩) (Kd.S_types (Kd.S_types HO142.out BK139.out (by decide)) BK138.out (by decide)) (fun _ hk => hk.1.2) (.slice Ao12 t140.length co12)) (fun _ hk => hk.2) (.int .i64 a0_0)) (fun _ hk => hk.2) (.slice Ao12 t140.length co12)) (fun _ hk => trivial), by repeat (first | (with_reducible first | exact HB.out | apply below_alloc | apply pw_below_drewN | apply below_drew1 | refine below_set ?_ GE137.out | refine below_set ?_ GE138.out | refine below_set ?_ GE139.out) | exact HB.out)⟩

end Go.Proofs.YtelfahcjeldliaaDoor.PFnExactDimacsText
