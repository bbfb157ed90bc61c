/- FnExactNetText: strings.Join, as the program calls it. Conditions: the form's own reach alone. -/
import Derived.Test.YtgibacfgjmdjdaaDoorNA
import Derived.Lib.Join
namespace Go.Proofs.YtgibacfgjmdjdaaDoor.PFnExactIsStable
open Go.RowKit Go.Proofs.YtgibacfgjmdjdaaDoorW.PrintWords Go.Proofs.YtgibacfgjmdjdaaDoorW.PrintLast Go.Proofs.YtgibacfgjmdjdaaDoorW.PrintMore
attribute [local go_sem] max2_int min2_int max_two min_two max_three min_three max_four min_four   -- for this text's walks alone
set_option linter.unusedVariables false
set_option linter.unusedSimpArgs false
set_option maxHeartbeats 4000000
set_option maxRecDepth 100000
theorem join_calls (bk c : Nat) (xs : List (List UInt8)) (w : World) (hcells : ∀ (j : Nat) x, xs[j]? = some x → w.cell? ⟨bk, j, none⟩ = some (.string (sB x))) (hbk : bk < w.heap.size) (h2 : 2 ≤ xs.length) (h7 : xs.length ≤ 7) (hl : Lib.lens xs ≤ 1000000) (hcap : xs.length ≤ c) :
  Calls Tryd.prog 50 #[.slice (some ⟨bk, 0, none⟩) xs.length c, .string ⟨#[32]⟩] w fun e w' => e = .returned (.string (sB (Lib.join xs [32]))) ∧ Below w.heap.size w w' := by
 have HC := aM hcells
 clear hcells
 obtain ⟨x0, r, hxs⟩ : ∃ x0 r, xs = x0 :: r := by
  cases xs with
  | nil => simp at h2
  | cons a t => exact ⟨a, t, rfl⟩
 have hrl : r.length = xs.length - 1 := by rw [hxs]; simp
 have hjl : (Lib.join xs [32]).length ≤ 1000007 := by
  have := Lib.join_length x0 r [32]
  rw [← hxs] at this
  rw [this, hrl]
  simp only [List.length_cons, List.length_nil]
  omega
 have h7' : xs.length = 2 ∨ xs.length = 3 ∨ xs.length = 4 ∨ xs.length = 5 ∨ xs.length = 6 ∨ xs.length = 7 := by omega
 have hdv : ¬ (9223372036854775807 / ((xs.length : Int) - 1) ≤ (1 : Int)) := by rcases h7' with h | h | h | h | h | h <;> rw [h] <;> decide
 have hprod : wrap64 ((1 : Int) * ((xs.length : Int) - 1)) = ((xs.length - 1 : Nat) : Int) := by rw [wr64 (by omega) (by omega)]; omega
 have hne0 : ((xs.length : Int) == 0) = false := beq_eq_false_iff_ne.2 (by omega)
 have hne1 : ((xs.length : Int) == 1) = false := beq_eq_false_iff_ne.2 (by omega)
 have hsz : (⟨#[32]⟩ : ByteArray).size = 1 := rfl
 have Hxs := aM hxs
 have Hjl := aM hjl
 have HL := aM hl
 clear hxs hjl h7' hl
 go_enter Tryd.func50, Tryd.ntmps50
 go_wp2_with fail

 generalize hM : xs.length - 1 = M at hrl hprod ⊢
 go_loop [5, 41] (fun n i => ∃ k : Nat, k ≤ xs.length ∧ i = .int .i64 k ∧ n = .int .i64 ((M + Lib.lens (xs.take k) : Nat) : Int)) (fun _ i => xs.length - (intOf i).toNat)
 case atStart => exact ⟨0, Nat.zero_le _, rfl, by simp [Lib.lens]; omega⟩
 case round =>
  obtain ⟨k, hk, rfl, rfl⟩ := hrel
  by_cases hkn : k < xs.length
  · obtain ⟨x, hx⟩ : ∃ x, xs[k]? = some x := ⟨xs[k], List.getElem?_eq_getElem hkn⟩
    have hc := HC.out k x hx
    have hstep := Lib.lens_take_succ xs k x hx
    have hbound : Lib.lens (xs.take (k + 1)) ≤ 1000000 := Nat.le_trans (Lib.lens_take_le _ _) HL.out
    have hxz : (sB x).size = x.length := sB_size x
    generalize hA1 : Lib.lens (xs.take (k + 1)) = A1 at hstep hbound
    generalize Lib.lens (xs.take k) = A0 at hstep
    have HA1 := aM hA1
    clear hA1
    go_wp2
    exact ⟨⟨k + 1, by omega, by go_num, by rw [HA1.out]; refine congrArg _ ?_; omega⟩, by simp [intOf]; omega⟩
  · have hke : k = xs.length := by omega
    subst hke
    rw [List.take_of_length_le (Nat.le_refl _)]
    have hl := HL.out
    generalize hT : Lib.lens xs = T at hl
    have HT := aM hT
    clear hT
    go_wp2_with fail
    have hMT : ((M : Int) + (T : Int)) = ((M + T : Nat) : Int) := by omega
    rw [hMT]
    refine (Tryd.Builder_Grow_fresh w.heap.size w.heap.size (M + T) _ (Nat.le_refl _) (heap_alloc_new w _) (by simp) (by omega)).mono ?_
    rintro e w1 ⟨rfl, h1, hb1⟩
    have hb1' : Below w.heap.size w w1 := ((Below.refl w.heap.size w).alloc (Nat.le_refl _) _).trans hb1
    have hx0 : xs[0]? = some x0 := by rw [Hxs.out]; rfl
    have hc0 : w1.cell? ⟨bk, 0, none⟩ = some (.string (sB x0)) := by
     rw [hb1'.cell (p := ⟨bk, 0, none⟩) hbk]
     exact HC.out 0 x0 hx0
    have H1 := aM (Or.inr h1 : Lib.IsBuilder 86 5 w.heap.size w.heap.size [] w1)
    have Hb1 := aM hb1'
    have hBw1 : w.heap.size ≤ w1.heap.size := hb1'.size
    clear h1 hb1 hb1' hMT
    have hwhole : Lib.join xs [32] = x0 ++ Lib.joinTail [32] r := by rw [Hxs.out, Lib.join_cons]
    have hCle : ∀ k, (x0 ++ Lib.joinTail [32] (r.take k)).length ≤ 1000007 := fun k => by
     have h1 := Hjl.out
     rw [hwhole, List.length_append] at h1
     have h2 := Lib.joinTail_take_le [32] r k
     rw [List.length_append]
     omega
    have HCle := aM hCle
    have Hwhole := aM hwhole
    clear hCle hwhole
    go_wp2_with fail
    refine (writeStr w.heap.size w.heap.size [] (sB x0) w1 H1.out (by have := HCle.out 0; rw [sB_size]; simp [Lib.joinTail] at this ⊢; omega) hBw1).mono ?_
    rintro e w2 ⟨rfl, h2', hb2⟩
    have hstart : ([] : List Value) ++ Lib.strCells (sB x0) = Lib.byteCells (x0 ++ Lib.joinTail [32] (r.take 0)) := by
     rw [sB_cells]
     simp [Lib.joinTail]
    rw [hstart] at h2'
    have H2 := aM (Or.inr h2' : Lib.IsBuilder 86 5 w.heap.size w.heap.size _ w2)
    have Hb2 := aM (Hb1.out.trans hb2)
    clear h2' hb2 hstart
    go_wp2_with fail
    go_loopw [65] (fun i wr => ∃ k : Nat, k ≤ r.length ∧ i = .int .i64 k ∧ Aside0 (Lib.IsBuilder 86 5 w.heap.size w.heap.size (Lib.byteCells (x0 ++ Lib.joinTail [32] (r.take k))) wr) ∧ Aside0 (Below w.heap.size w wr)) (fun i _ => r.length - (intOf i).toNat)
    case atStart => exact ⟨0, Nat.zero_le _, rfl, H2, Hb2⟩
    case round =>
     obtain ⟨k, hk', rfl, HB, HW⟩ := hrel
     by_cases hkr : k < r.length
     · obtain ⟨y, hy⟩ : ∃ y, r[k]? = some y := ⟨r[k], List.getElem?_eq_getElem hkr⟩
       have hxy : xs[k + 1]? = some y := by rw [Hxs.out]; simpa using hy
       have hcy : wr.cell? ⟨bk, 1 + k, none⟩ = some (.string (sB y)) := by
        rw [HW.out.cell (p := ⟨bk, 1 + k, none⟩) hbk, show 1 + k = k + 1 by omega]
        exact HC.out (k + 1) y hxy
       have hBw : w.heap.size ≤ wr.heap.size := HW.out.size
       have hnext : Lib.byteCells (x0 ++ Lib.joinTail [32] (r.take k)) ++ Lib.strCells ⟨#[32]⟩ ++ Lib.strCells (sB y) = Lib.byteCells (x0 ++ Lib.joinTail [32] (r.take (k + 1))) := by
        rw [Lib.joinTail_take_succ [32] r k y hy, sB_cells, show (⟨#[32]⟩ : ByteArray) = sB [32] from rfl, sB_cells, ← Lib.byteCells_append, ← Lib.byteCells_append]
        simp only [List.append_assoc]
       have hl1 := HCle.out (k + 1)
       rw [Lib.joinTail_take_succ [32] r k y hy] at hl1
       simp only [List.length_append] at hl1
       have hl0 : (Lib.byteCells (x0 ++ Lib.joinTail [32] (r.take k))).length = x0.length + (Lib.joinTail [32] (r.take k)).length := by
        rw [Lib.byteCells_length, List.length_append]
       have hs32 : (⟨#[32]⟩ : ByteArray).size = 1 := rfl
       have hc32 : (Lib.strCells ⟨#[32]⟩).length = 1 := rfl
       generalize (Lib.joinTail [32] (r.take k)).length = J at hl0 hl1
       have Hn := aM hnext
       clear hnext hy hxy
       go_wp2_with fail
       refine (writeStr w.heap.size w.heap.size _ ⟨#[32]⟩ wr HB.out (by rw [hl0, hs32]; omega) hBw).mono ?_
       rintro e w3 ⟨rfl, h3, hb3⟩
       have hBw3 : w.heap.size ≤ w3.heap.size := Nat.le_trans hBw hb3.size
       have H3 := aM h3
       have Hb3 := aM hb3
       clear h3 hb3
       go_wp2_with fail
       refine (writeStr w.heap.size w.heap.size _ (sB y) w3 (Or.inr H3.out) (by rw [List.length_append, hl0, hc32, sB_size]; omega) hBw3).mono ?_
       rintro e w4 ⟨rfl, h4, hb4⟩
       rw [Hn.out] at h4
       have H4 := aM (Or.inr h4 : Lib.IsBuilder 86 5 w.heap.size w.heap.size _ w4)
       have Hb4 := aM ((HW.out.trans Hb3.out).trans hb4)
       clear h4 hb4
       go_wp2
       exact ⟨⟨k + 1, by omega, by go_num, H4, Hb4⟩, by simp [intOf]; omega⟩
     · have hke : k = r.length := by omega
       subst hke
       have hB' := HB.out
       rw [List.take_of_length_le (Nat.le_refl _), ← Hwhole.out] at hB'
       have hBw : w.heap.size ≤ wr.heap.size := HW.out.size
       go_wp2_with fail
       refine (Tryd.Builder_String_any w.heap.size w.heap.size _ wr hB' hBw).mono ?_
       rintro e w5 ⟨rfl, hb5⟩
       have Hb5 := aM (HW.out.trans hb5)
       clear hb5 hB'
       go_wp2
       go_ret
       exact ⟨rfl, Hb5.out⟩
end Go.Proofs.YtgibacfgjmdjdaaDoor.PFnExactIsStable
