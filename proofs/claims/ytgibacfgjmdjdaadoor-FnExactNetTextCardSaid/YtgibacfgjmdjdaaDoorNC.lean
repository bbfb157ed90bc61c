/- FnExactNetText: a line of the text, and what an import does. Conditions: the form's own reach alone. -/
import Derived.Test.YtgibacfgjmdjdaaDoorNB
namespace Go.Proofs.YtgibacfgjmdjdaaDoor.PFnExactIsStable
open Go.RowKit Go.Proofs.YtgibacfgjmdjdaaDoorW.PrintWords Go.Proofs.YtgibacfgjmdjdaaDoorW.PrintLast Go.Proofs.YtgibacfgjmdjdaaDoorW.PrintMore
attribute [local go_sem] max2_int min2_int max_two min_two max_three min_three max_four min_four   -- for this text's walks alone
set_option linter.unusedVariables false
set_option linter.unusedSimpArgs false
set_option maxHeartbeats 4000000
set_option maxRecDepth 100000
def lineT (xs : List (List UInt8)) : List UInt8 := Lib.join xs [32] ++ [10]
theorem lineT_le (x : List UInt8) (r : List (List UInt8)) : (lineT (x :: r)).length ≤ Lib.lens (x :: r) + r.length + 1 := by
 have := Lib.join_length x r [32]
 simp only [lineT, List.length_append, List.length_cons, List.length_nil] at this ⊢
 omega
theorem others_below {e : TypeId} {b : Option Nat} {w w' : World} (h : Below w.heap.size w w') : Lib.OthersKept e b w w' := by
 intro k o hk _ _
 rw [h.block k (blk_lt hk)]
 exact hk
theorem put_calls (B b bk c : Nat) (T : List UInt8) (xs : List (List UInt8)) (w : World) (hB : Lib.IsBuilder 86 5 B b (Lib.byteCells T) w) (hBw : B ≤ w.heap.size) (hT : T.length ≤ 100000000) (hcells : ∀ (j : Nat) x, xs[j]? = some x → w.cell? ⟨bk, j, none⟩ = some (.string (sB x))) (hbk : bk < w.heap.size) (h2 : 2 ≤ xs.length) (h7 : xs.length ≤ 7) (hl : Lib.lens xs ≤ 1000000) (hcap : xs.length ≤ c) :
  Calls Tryd.prog 48 #[.slice (some ⟨bk, 0, none⟩) xs.length c, .pointer (some ⟨b, 0, none⟩)] w fun e w' => e = .returned (.tuple #[]) ∧ Lib.IsBuilder 86 5 B b (Lib.byteCells (T ++ lineT xs)) w' ∧ Below B w w' ∧ Lib.OthersKept 5 (some b) w w' := by
 have HB := aM hB
 have HJ := aM (join_calls bk c xs w hcells hbk h2 h7 hl hcap)
 have hjl : (Lib.join xs [32]).length ≤ 1000007 := by
  obtain ⟨x0, r, rfl⟩ : ∃ x0 r, xs = x0 :: r := by
   cases xs with
   | nil => simp at h2
   | cons a t => exact ⟨a, t, rfl⟩
  rw [Lib.join_length x0 r [32]]
  simp only [List.length_cons, List.length_nil] at h7 ⊢
  omega
 have hs1 : (sB (Lib.join xs [32])).size + (⟨#[10]⟩ : ByteArray).size ≤ 9223372036854775807 := by rw [sB_size]; exact Nat.le_trans (Nat.add_le_add_right hjl 1) (by decide)
 have hs2 := Nat.not_lt.2 hs1
 have ha : sB (Lib.join xs [32]) ++ (⟨#[10]⟩ : ByteArray) = sB (lineT xs) := sB_add _ [10]
 clear hB hcells
 go_enter Tryd.func48, Tryd.ntmps48
 go_wp2_with (go_at_call 50; refine HJ.out.mono ?_; rintro e w1 ⟨rfl, hb1⟩)
 refine (writeStrK B b (Lib.byteCells T) (sB (lineT xs)) w1 (build_below HB.out hb1) (by rw [Lib.byteCells_length, sB_size]; simp only [lineT, List.length_append, List.length_cons, List.length_nil]; omega) (Nat.le_trans hBw hb1.size)).mono ?_
 rintro e w2 ⟨rfl, h2', hb2, hk2⟩
 rw [sB_cells, ← Lib.byteCells_append] at h2'
 go_wp2
 go_end0
 exact ⟨rfl, Or.inr h2', (hb1.mono hBw).trans hb2, (others_below hb1).trans hk2⟩
def doT (d n : Int) : List UInt8 := if d = 1 then [32, 100, 101, 110, 121] else if d = 2 then [32, 112, 114, 101, 102, 32] ++ Lib.itoa n else if d = 3 then [32, 109, 97, 114, 107] else [32, 99, 108, 101, 97, 114]
theorem doText_calls (a0 a1 a2 a3 a4 : Int) (w : World) (hT : Tab w) (h0 : smallI a4) :
  Calls Tryd.prog 52 #[.agg #[.int .i64 a0, .int .i64 a1, .int .i64 a2, .int .i64 a3, .int .i64 a4]] w fun e w' => e = .returned (.string (sB (doT a3 a4))) ∧ Below w.heap.size w w' := by
 have hu95 := Tryd.underlying65
 have HT := aM hT
 have HB := aM (Below.refl w.heap.size w)
 have hi := itoa_le h0
 have hs1 : (⟨#[32, 112, 114, 101, 102, 32]⟩ : ByteArray).size + (sB (Lib.itoa a4)).size ≤ 9223372036854775807 := by rw [sB_size]; exact Nat.le_trans (Nat.add_le_add_left hi 6) (by decide)
 have hs2 := Nat.not_lt.2 hs1
 have ha : (⟨#[32, 112, 114, 101, 102, 32]⟩ : ByteArray) ++ sB (Lib.itoa a4) = sB ([32, 112, 114, 101, 102, 32] ++ Lib.itoa a4) := sB_add [32, 112, 114, 101, 102, 32] _
 clear hT
 by_cases c1 : a3 = 1
 · have b1 : (a3 == 1) = true := beq_iff_eq.mpr c1
   have e : doT a3 a4 = [32, 100, 101, 110, 121] := by simp [doT, c1]
   rw [e]
   go_enter Tryd.func52, Tryd.ntmps52
   go_wp2_with ((with_reducible refine gate_dst (N := 1) rfl ?_); refine box_event rfl (N := 1) rfl (cs := #[.int .i64 a0, .int .i64 a1, .int .i64 a2, .int .i64 a3, .int .i64 a4]) (t := 65) (by go_simp; done) ?_; intro g1 hg w1 hbox hb; have BK := aM hbox; replace HB := aB HB hb; clear hb hbox hg; obtain ⟨q0, q1, q2, q3, q4⟩ := swc5 BK.out)
   go_ret
   exact ⟨rfl, HB.out⟩
 have b1 : (a3 == 1) = false := beq_eq_false_iff_ne.mpr c1
 by_cases c2 : a3 = 2
 · have b2 : (a3 == 2) = true := beq_iff_eq.mpr c2
   have e : doT a3 a4 = [32, 112, 114, 101, 102, 32] ++ Lib.itoa a4 := by simp [doT, c2]
   rw [e]
   go_enter Tryd.func52, Tryd.ntmps52
   go_wp2_with (first | ((with_reducible refine gate_dst (N := 1) rfl ?_); refine box_event rfl (N := 1) rfl (cs := #[.int .i64 a0, .int .i64 a1, .int .i64 a2, .int .i64 a3, .int .i64 a4]) (t := 65) (by go_simp; done) ?_; intro g1 hg w1 hbox hb; have BK := aM hbox; replace HT := aM (tab_below HT.out hb); replace HB := aB HB hb; clear hb hbox hg; obtain ⟨q0, q1, q2, q3, q4⟩ := swc5 BK.out) | (go_at_call 51; refine (itoa_sB a4 _ HT.out (by have := h0.1; omega) (by have := h0.2; omega)).mono ?_; rintro e w2 ⟨rfl, hb⟩; replace HB := aB HB hb))
   go_ret
   exact ⟨rfl, HB.out⟩
 have b2 : (a3 == 2) = false := beq_eq_false_iff_ne.mpr c2
 by_cases c3 : a3 = 3
 · have b3 : (a3 == 3) = true := beq_iff_eq.mpr c3
   have e : doT a3 a4 = [32, 109, 97, 114, 107] := by simp [doT, c3]
   rw [e]
   go_enter Tryd.func52, Tryd.ntmps52
   go_wp2_with ((with_reducible refine gate_dst (N := 1) rfl ?_); refine box_event rfl (N := 1) rfl (cs := #[.int .i64 a0, .int .i64 a1, .int .i64 a2, .int .i64 a3, .int .i64 a4]) (t := 65) (by go_simp; done) ?_; intro g1 hg w1 hbox hb; have BK := aM hbox; replace HB := aB HB hb; clear hb hbox hg; obtain ⟨q0, q1, q2, q3, q4⟩ := swc5 BK.out)
   go_ret
   exact ⟨rfl, HB.out⟩
 have b3 : (a3 == 3) = false := beq_eq_false_iff_ne.mpr c3
 have e : doT a3 a4 = [32, 99, 108, 101, 97, 114] := by simp [doT, c1, c2, c3]
 rw [e]
 go_enter Tryd.func52, Tryd.ntmps52
 go_wp2_with ((with_reducible refine gate_dst (N := 1) rfl ?_); refine box_event rfl (N := 1) rfl (cs := #[.int .i64 a0, .int .i64 a1, .int .i64 a2, .int .i64 a3, .int .i64 a4]) (t := 65) (by go_simp; done) ?_; intro g1 hg w1 hbox hb; have BK := aM hbox; replace HB := aB HB hb; clear hb hbox hg; obtain ⟨q0, q1, q2, q3, q4⟩ := swc5 BK.out)
 go_ret
 exact ⟨rfl, HB.out⟩
end Go.Proofs.YtgibacfgjmdjdaaDoor.PFnExactIsStable
