/- WRITTEN BY A PROGRAM OF THIS SESSION (wip/xprint) OVER THE KIT's PRINT, FOR THIS CLAIM: for Go functions that the law reaches, one Lean function each and the proof that Go's call comes to its answer. No conditions but those that each theorem names. -/
import Derived.Test.YtcmkkoggdcjceaaPFnExactAtMostExx0
import Derived.Test.YtcmkkoggdcjceaaPFnExactAtMostExx2
namespace Go.Proofs.Ytcmkkoggdcjceaa.PFnExactAtMostEx
open Go.RowKit Go.Proofs.YtcmkkoggdcjceaaW.PrintWords Go.Proofs.YtcmkkoggdcjceaaW.PrintLast Go.Proofs.YtcmkkoggdcjceaaW.PrintMore
attribute [local go_sem] max2_int min2_int max_two min_two max_three min_three max_four min_four   -- for this text's walks alone
set_option linter.unusedVariables false
set_option linter.unusedSimpArgs false

/-! ### impl_countEx: function 113 -/
/-! a counter behind a pointer: block g holds it; what else was there lies as it lay -/
structure CE (g : Nat) (c : Int) (w w' : World) : Prop where
  os : w'.os = w.os
  tape : w'.tape = w.tape
  output : w'.output = w.output
  size : w.heap.size ≤ w'.heap.size
  block : ∀ k, k < w.heap.size → k ≠ g → w'.heap[k]? = w.heap[k]?
  cnt : w'.heap[g]? = some (.cells #[.int .i64 c] 3 (0, 0))
theorem CE.refl {g : Nat} {c : Int} {w : World} (h : w.heap[g]? = some (.cells #[.int .i64 c] 3 (0, 0))) : CE g c w w := ⟨rfl, rfl, rfl, Nat.le_refl _, fun _ _ _ => rfl, h⟩
theorem CE.trans {g : Nat} {c c1 : Int} {w w1 w2 : World} (h : CE g c w w1) (k : CE g c1 w1 w2) : CE g c1 w w2 :=
  ⟨k.os.trans h.os, k.tape.trans h.tape, k.output.trans h.output, Nat.le_trans h.size k.size, fun i hi hg => (k.block i (Nat.lt_of_lt_of_le hi h.size) hg).trans (h.block i hi hg), k.cnt⟩
theorem CE.lt {g : Nat} {c : Int} {w w' : World} (h : CE g c w w') : g < w'.heap.size := (Array.getElem?_eq_some_iff.1 h.cnt).1
theorem CE.below {g : Nat} {c : Int} {w w1 w2 : World} (h : CE g c w w1) (k : Below w1.heap.size w1 w2) : CE g c w w2 :=
  ⟨k.os.trans h.os, k.tape.trans h.tape, k.output.trans h.output, Nat.le_trans h.size k.size, fun i hi hg => (k.block i (Nat.lt_of_lt_of_le hi h.size)).trans (h.block i hi hg), (k.block g h.lt).trans h.cnt⟩
theorem CE.cell {g : Nat} {c : Int} {w w' : World} (h : CE g c w w') {k o : Nat} (hk : k < w.heap.size) (hg : k ≠ g) : w'.cell? ⟨k, o, none⟩ = w.cell? ⟨k, o, none⟩ := World.cell?_of_block (w := w) (h.block k hk hg)
theorem CE.val {g : Nat} {c : Int} {w w' : World} (h : CE g c w w') : w'.cell? ⟨g, 0, none⟩ = some (.int .i64 c) := (blk_cell h.cnt 0).trans rfl
theorem CE.free {g : Nat} {c : Int} {w w' : World} (h : CE g c w w') : w'.frozen? ⟨g, 0, none⟩ = false := blk_frozen h.cnt 0
theorem CE.set {g : Nat} {c c1 : Int} {w w' : World} (h : CE g c w w') : CE g c1 w (w'.setCell ⟨g, 0, none⟩ (.int .i64 c1)) :=
  ⟨h.os, h.tape, h.output, by simpa [World.setCell] using h.size, fun i hi hg => (Below.heap_setCell w' ⟨g, 0, none⟩ _ i hg).trans (h.block i hi hg), by
    have := h.cnt
    simp only [World.setCell, Array.getElem?_modify, if_true, this]
    rfl⟩
/-- A row that is read lies as it lay, where its blocks are old and none is the counter. -/
theorem within_anyE (a lo hi : Int) (w : World) : Calls Try.prog 79 #[.int .i64 a, .int .i64 lo, .int .i64 hi] w fun e w' => e = .returned (.bool (decide (lo ≤ a) && decide (a ≤ hi))) ∧ w' = w := by
  by_cases h : lo ≤ a
  · rw [decide_eq_true h, Bool.true_and]
    go_enter Try.func79, Try.ntmps79
    go_wp2
    go_ret
    exact ⟨rfl, rfl⟩
  · rw [decide_eq_false h, Bool.false_and]
    go_enter Try.func79, Try.ntmps79
    go_wp2
    go_ret
    exact ⟨rfl, rfl⟩
/-- how many Kids an expression of a kind has -/
def kidsM (kind : Int) : Int := if kind = 1 then 0 else if kind = 2 then 0 else if kind = 3 then 1 else if kind = 4 then 2 else if kind = 5 then 2 else if kind = 6 then 2 else if kind = 7 then 3 else -1
/-- whether an expression's number is right -/
def numB (kind n : Int) : Bool := if kind = 1 then decide (0 ≤ n) && decide (n ≤ 11) else if kind = 2 then decide (0 ≤ n) && decide (n ≤ 1) else n == 0
set_option maxHeartbeats 4000000 in
theorem kidsOf_is (kind : Int) (w : World) : Calls Try.prog 136 #[.int .i64 kind] w fun e w' => e = .returned (.int .i64 (kidsM kind)) ∧ w' = w := by
  unfold kidsM
  by_cases h1 : kind = 1
  · subst h1
    rw [if_pos rfl]
    go_enter Try.func136, Try.ntmps136
    go_wp2
    go_ret
    exact ⟨rfl, rfl⟩
  by_cases h2 : kind = 2
  · subst h2
    rw [if_neg (by decide), if_pos rfl]
    go_enter Try.func136, Try.ntmps136
    go_wp2
    go_ret
    exact ⟨rfl, rfl⟩
  by_cases h3 : kind = 3
  · subst h3
    rw [if_neg (by decide), if_neg (by decide), if_pos rfl]
    go_enter Try.func136, Try.ntmps136
    go_wp2
    go_ret
    exact ⟨rfl, rfl⟩
  by_cases h4 : kind = 4
  · subst h4
    rw [if_neg (by decide), if_neg (by decide), if_neg (by decide), if_pos rfl]
    go_enter Try.func136, Try.ntmps136
    go_wp2
    go_ret
    exact ⟨rfl, rfl⟩
  by_cases h5 : kind = 5
  · subst h5
    rw [if_neg (by decide), if_neg (by decide), if_neg (by decide), if_neg (by decide), if_pos rfl]
    go_enter Try.func136, Try.ntmps136
    go_wp2
    go_ret
    exact ⟨rfl, rfl⟩
  by_cases h6 : kind = 6
  · subst h6
    rw [if_neg (by decide), if_neg (by decide), if_neg (by decide), if_neg (by decide), if_neg (by decide), if_pos rfl]
    go_enter Try.func136, Try.ntmps136
    go_wp2
    go_ret
    exact ⟨rfl, rfl⟩
  by_cases h7 : kind = 7
  · subst h7
    rw [if_neg (by decide), if_neg (by decide), if_neg (by decide), if_neg (by decide), if_neg (by decide), if_neg (by decide), if_pos rfl]
    go_enter Try.func136, Try.ntmps136
    go_wp2
    go_ret
    exact ⟨rfl, rfl⟩
  rw [if_neg h1, if_neg h2, if_neg h3, if_neg h4, if_neg h5, if_neg h6, if_neg h7]
  go_enter Try.func136, Try.ntmps136
  go_wp2
  go_ret
  exact ⟨rfl, rfl⟩
mutual
/-- whether an expression is right at a depth, and the count of nodes behind it -/
def countE : S31 → Int → Int → Bool × Int
  | ⟨kind, n, kids⟩, deep, c => if decide (wrap64 (c + 1) > 400) || (decide (deep > 40) || (!((kids.length : Int) == kidsM kind) || !(numB kind n))) then (false, wrap64 (c + 1)) else countEs kids (wrap64 (deep + 1)) (wrap64 (c + 1))
def countEs : List (S31) → Int → Int → Bool × Int
  | [], _, c => (true, c)
  | x :: r, deep, c => match countE x deep c with
    | (true, c1) => countEs r deep c1
    | (false, c1) => (false, c1)
end
/-- the count behind the first i of some Kids, each looked at -/
def stE (deep : Int) (l : List (S31)) (c : Int) : Nat → Int
  | 0 => c
  | i + 1 => (countE (rd_T31 l (i : Int)) deep (stE deep l c i)).2
theorem countEs_all (deep : Int) (c : Int) (l : List (S31)) (h : ∀ j, j < l.length → (countE (rd_T31 l (j : Int)) deep (stE deep l c j)).1 = true) : countEs l deep c = (true, stE deep l c l.length) := by
  have key : ∀ d i, i + d = l.length → countEs (l.drop i) deep (stE deep l c i) = (true, stE deep l c l.length) := by
    intro d
    induction d with
    | zero =>
      intro i hi
      obtain rfl : i = l.length := by omega
      rw [List.drop_length, countEs]
    | succ d ih =>
      intro i hi
      have hil : i < l.length := by omega
      have hr : rd_T31 l (i : Int) = l[i] := by unfold rd_T31; simp [List.getD, hil]
      rw [List.drop_eq_getElem_cons hil, countEs]
      have h1 := h i hil
      rw [hr] at h1
      have h2 := ih (i + 1) (by omega)
      rw [stE, hr] at h2
      generalize countE l[i] deep (stE deep l c i) = q at h1 h2
      obtain ⟨q1, q2⟩ := q
      subst h1
      exact h2
  have := key l.length 0 (by omega)
  rw [List.drop_zero, stE] at this
  exact this
theorem countEs_hit (deep : Int) (c : Int) (l : List (S31)) (i : Nat) (hi : i < l.length) (hf : (countE (rd_T31 l (i : Int)) deep (stE deep l c i)).1 = false) (h : ∀ j, j < i → (countE (rd_T31 l (j : Int)) deep (stE deep l c j)).1 = true) : countEs l deep c = (false, stE deep l c (i + 1)) := by
  have key : ∀ d k, k + d = i → countEs (l.drop k) deep (stE deep l c k) = (false, stE deep l c (i + 1)) := by
    intro d
    induction d with
    | zero =>
      intro k hk
      obtain rfl : k = i := by omega
      have hr : rd_T31 l (k : Int) = l[k] := by unfold rd_T31; simp [List.getD, hi]
      rw [List.drop_eq_getElem_cons hi, countEs, stE]
      rw [hr] at hf ⊢
      generalize countE l[k] deep (stE deep l c k) = q at hf ⊢
      obtain ⟨q1, q2⟩ := q
      subst hf
      rfl
    | succ d ih =>
      intro k hk
      have hkl : k < l.length := by omega
      have hr : rd_T31 l (k : Int) = l[k] := by unfold rd_T31; simp [List.getD, hkl]
      rw [List.drop_eq_getElem_cons hkl, countEs]
      have h1 := h k (by omega)
      rw [hr] at h1
      have h2 := ih (k + 1) (by omega)
      rw [stE, hr] at h2
      generalize countE l[k] deep (stE deep l c k) = q at h1 h2
      obtain ⟨q1, q2⟩ := q
      subst h1
      exact h2
  have := key i 0 (by omega)
  rw [List.drop_zero, stE] at this
  exact this
/-- what a call of countEx does -/
def SaidE (deep : Int) (x : S31) : Prop := ∀ (c : Int) (A2 : Option Addr) (c2 : Nat) (g : Nat) (w0 w : World), Kd.C k31 w0 A2 x.f2.length x.f2 → x.f2.length ≤ c2 → Below w0.heap.size w0 w → w0.heap.size ≤ g → w.heap[g]? = some (.cells #[.int .i64 c] 3 (0, 0)) →
  Calls Try.prog 113 #[.agg #[.int .i64 x.f0, .int .i64 x.f1, .slice A2 x.f2.length c2], .int .i64 deep, .pointer (some ⟨g, 0, none⟩)] w fun e w' => e = .returned (.bool (countE x deep c).1) ∧ CE g (countE x deep c).2 w w'
theorem CE.base {g : Nat} {c : Int} {w0 w w' : World} (h : CE g c w w') (hb : Below w0.heap.size w0 w) (hg : w0.heap.size ≤ g) : Below w0.heap.size w0 w' :=
  ⟨h.os.trans hb.os, h.tape.trans hb.tape, h.output.trans hb.output, Nat.le_trans hb.size h.size, fun k hk => (h.block k (Nat.lt_of_lt_of_le hk hb.size) (by omega)).trans (hb.block k hk)⟩
set_option maxHeartbeats 4000000 in
set_option maxRecDepth 100000 in
theorem countE_fn (dp deep : Int) (hdp : wrap64 (dp + 1) = deep) (x : S31) (hx : SaidE deep x) (c : Int) (A2 : Option Addr) (c2 : Nat) (g B : Nat) (w0 w : World) (hr : Kd.C k31 w0 A2 x.f2.length x.f2) (hc : x.f2.length ≤ c2) (hb : Below w0.heap.size w0 w) (hg : w0.heap.size ≤ g) (hcnt : w.heap[g]? = some (.cells #[.int .i64 c] 3 (0, 0)))
    (h1 : w.cell? ⟨B, 0, none⟩ = some (.int .i64 dp)) (h2 : w.cell? ⟨B + 1, 0, none⟩ = some (.pointer (some ⟨g, 0, none⟩))) :
    Calls Try.prog 137 #[.agg #[.int .i64 x.f0, .int .i64 x.f1, .slice A2 x.f2.length c2], .pointer (some ⟨B, 0, none⟩), .pointer (some ⟨B + 1, 0, none⟩)] w fun e w' => e = .returned (.bool (!(countE x deep c).1)) ∧ CE g (countE x deep c).2 w w' := by
  subst hdp
  have hcall := hx c A2 c2 g w0 (w.alloc (.cells #[.int .i64 x.f0, .int .i64 x.f1, .slice A2 x.f2.length c2] 31)) hr hc (hb.alloc hb.size _) hg ((((Below.refl w.heap.size w).alloc (Nat.le_refl _) _).block g (Array.getElem?_eq_some_iff.1 hcnt).1).trans hcnt)
  have hB : Below w.heap.size w (w.alloc (.cells #[.int .i64 x.f0, .int .i64 x.f1, .slice A2 x.f2.length c2] 31)) := (Below.refl _ _).alloc (Nat.le_refl _) _
  have h1' := (hB.cell (World.block_lt_of_cell? w _ h1)).trans h1
  have h2' := (hB.cell (World.block_lt_of_cell? w _ h2)).trans h2
  have H := Aside0.mk hcnt
  have hu := Try.underlying31
  clear hr hc hb hg h1 h2 hcnt hx
  generalize countE x (wrap64 (dp + 1)) c = q at hcall ⊢
  obtain ⟨q1, q2⟩ := q
  simp only at hcall ⊢
  go_enter Try.func137, Try.ntmps137
  go_wp2_with (go_at_call 113; refine hcall.mono ?_; rintro e w' ⟨rfl, hb⟩)
  go_ret
  exact ⟨rfl, ((CE.refl H.out).below hB).trans hb⟩
theorem below3E (w : World) (a b c : Obj) : Below w.heap.size w (((w.alloc a).alloc b).alloc c) := by
  have h1 := (Below.refl w.heap.size w).alloc (Nat.le_refl _) a
  have h2 := h1.alloc h1.size b
  exact h2.alloc h2.size c
theorem countE_bad {deep kind n c : Int} {kids : List (S31)} (hb : (decide (wrap64 (c + 1) > 400) || (decide (deep > 40) || (!((kids.length : Int) == kidsM kind) || !(numB kind n)))) = true) : countE ⟨kind, n, kids⟩ deep c = (false, wrap64 (c + 1)) := by
  rw [countE]
  simp only [hb, if_true]
theorem countE_good {deep kind n c : Int} {kids : List (S31)} (h1 : ¬ wrap64 (c + 1) > 400) (h3 : ¬ deep > 40) (h2 : (kids.length : Int) = kidsM kind) (h4 : numB kind n = true) : countE ⟨kind, n, kids⟩ deep c = countEs kids (wrap64 (deep + 1)) (wrap64 (c + 1)) := by
  rw [countE]
  simp [h1, h2, h3, h4]
theorem sz_kidE {kind n : Int} {kids : List (S31)} {d : Nat} (h : SizeOf.sizeOf (⟨kind, n, kids⟩ : S31) < d + 1) (i : Nat) (hi : i < kids.length) : SizeOf.sizeOf (rd_T31 kids (i : Int)) < d := by
  have hr : rd_T31 kids (i : Int) = kids[i] := by unfold rd_T31; simp [List.getD, hi]
  rw [hr]
  have := List.sizeOf_lt_of_mem (List.getElem_mem hi)
  simp at h
  omega
theorem CE.kid {g : Nat} {c c1 : Int} {w0 w W3 W' : World} (hb : Below w0.heap.size w0 w) (hg : w0.heap.size ≤ g) (h3 : CE g c1 w W3) (h : CE g c W3 W') : Below w0.heap.size w0 W' := (h3.trans h).base hb hg
/-- the call of slices.ContainsFunc over the Kids -/
theorem countE_kids (dp c1 : Int) (kids : List (S31)) (A2 : Option Addr) (c2 g B : Nat) (w0 w W3 : World) (hd : Kd.C k31 w0 A2 kids.length kids) (hb : Below w0.heap.size w0 w) (hg : w0.heap.size ≤ g) (hgB : g < B) (h3 : CE g c1 w W3)
    (hYb : W3.cell? ⟨B + 1, 0, none⟩ = some (.int .i64 dp)) (hYc : W3.cell? ⟨B + 1 + 1, 0, none⟩ = some (.pointer (some ⟨g, 0, none⟩))) (hn : kids.length ≤ 9223372036854775807) (hk : ∀ i : Nat, i < kids.length → SaidE (wrap64 (dp + 1)) (rd_T31 kids (i : Int))) :
    Calls Try.prog 120 #[.slice A2 kids.length c2, .func (.func 137) #[] #[.pointer (some ⟨B + 1, 0, none⟩), .pointer (some ⟨B + 1 + 1, 0, none⟩)]] W3 fun e w' => e = .returned (.bool (!(countEs kids (wrap64 (dp + 1)) c1).1)) ∧ CE g (countEs kids (wrap64 (dp + 1)) c1).2 W3 w' := by
  refine (any31 (fun i W' => CE g (stE (wrap64 (dp + 1)) kids c1 i) W3 W') (fun i => !(countE (rd_T31 kids (i : Int)) (wrap64 (dp + 1)) (stE (wrap64 (dp + 1)) kids c1 i)).1) kids 137 #[.pointer (some ⟨B + 1, 0, none⟩), .pointer (some ⟨B + 1 + 1, 0, none⟩)] (enters_of Try.func137 (by kernel_rfl) rfl) A2 c2 W3 hn (CE.refl h3.cnt) w0 hd (fun i W' h => CE.kid hb hg h3 h) ?_).mono ?_
  · intro i hi _ W' hW A' c' hd' hc'
    have e1 := (hW.cell (World.block_lt_of_cell? W3 _ hYb) (show B + 1 ≠ g by omega)).trans hYb
    have e2 := (hW.cell (World.block_lt_of_cell? W3 _ hYc) (show B + 1 + 1 ≠ g by omega)).trans hYc
    refine (countE_fn dp _ rfl _ (hk i hi) (stE (wrap64 (dp + 1)) kids c1 i) A' c' g (B + 1) w0 W' hd' hc' (CE.kid hb hg h3 hW) hg hW.cnt e1 e2).mono ?_
    rintro e w' ⟨rfl, h⟩
    exact ⟨rfl, hW.trans h⟩
  · rintro e w' ⟨b, rfl, m, hm, hI, h⟩
    rcases h with ⟨rfl, rfl, h⟩ | ⟨rfl, i, rfl, h1, h⟩
    · have := countEs_all _ c1 kids (fun j hj => by simpa using h j hj)
      rw [this]
      exact ⟨rfl, hI⟩
    · have := countEs_hit _ c1 kids i (by omega) (by simpa using h1) (fun j hj => by simpa using h j hj)
      rw [this]
      exact ⟨rfl, hI⟩
set_option maxHeartbeats 4000000 in
set_option maxRecDepth 100000 in
theorem countE_calls : ∀ (d : Nat) (x : S31), SizeOf.sizeOf x < d → ∀ deep, SaidE deep x := by
  intro d
  induction d with
  | zero => exact fun x h => absurd h (Nat.not_lt_zero _)
  | succ d ih =>
    intro x hxd deep c A2 c2 g w0 w hr hc hb hg hcnt
    obtain ⟨kind, n, kids⟩ := x
    have hgs : g < w.heap.size := (Array.getElem?_eq_some_iff.1 hcnt).1
    have hv0 : w.cell? ⟨g, 0, none⟩ = some (.int .i64 c) := (blk_cell hcnt 0).trans rfl
    have hf0 : w.frozen? ⟨g, 0, none⟩ = false := blk_frozen hcnt 0
    have hB3 : Below w.heap.size w (((w.alloc (.cells #[.int .i64 kind, .int .i64 n, .slice A2 kids.length c2] 31)).alloc (.cells #[.int .i64 deep] 3)).alloc (.cells #[.pointer (some ⟨g, 0, none⟩)] 131)) := below3E _ _ _ _
    have hgA := (hB3.cell (p := ⟨g, 0, none⟩) hgs).trans hv0
    have hgF := (World.frozen?_of_block (a := ⟨g, 0, none⟩) (hB3.block g hgs)).trans hf0
    have hn0 : g ≠ w.heap.size := by omega
    have hn1 : g ≠ w.heap.size + 1 := by omega
    have hn2 : g ≠ w.heap.size + 1 + 1 := by omega
    obtain ⟨W, hW, hX0, hX1, hX2, hXb, hXc, hXg, hC3⟩ : ∃ W, ((((w.alloc (.cells #[.int .i64 kind, .int .i64 n, .slice A2 kids.length c2] 31)).alloc (.cells #[.int .i64 deep] 3)).alloc (.cells #[.pointer (some ⟨g, 0, none⟩)] 131)).setCell ⟨g, 0, none⟩ (.int .i64 (wrap64 (c + 1)))) = W ∧ W.cell? ⟨w.heap.size, 0, none⟩ = some (.int .i64 kind) ∧ W.cell? ⟨w.heap.size, 1, none⟩ = some (.int .i64 n) ∧ W.cell? ⟨w.heap.size, 2, none⟩ = some (.slice A2 kids.length c2) ∧ W.cell? ⟨w.heap.size + 1, 0, none⟩ = some (.int .i64 deep) ∧ W.cell? ⟨w.heap.size + 1 + 1, 0, none⟩ = some (.pointer (some ⟨g, 0, none⟩)) ∧ W.cell? ⟨g, 0, none⟩ = some (.int .i64 (wrap64 (c + 1))) ∧ CE g (wrap64 (c + 1)) w W := by
      have h3 := (((CE.refl hcnt).below hB3).set (c1 := wrap64 (c + 1)))
      refine ⟨_, rfl, ?_, ?_, ?_, ?_, ?_, h3.val, h3⟩
      · go_simp
      · go_simp
      · go_simp
      · go_simp
      · go_simp
    have hWs := Aside0.mk hW
    have hC3' := Aside0.mk hC3
    have hkids : ∀ i : Nat, i < kids.length → SaidE (wrap64 (deep + 1)) (rd_T31 kids (i : Int)) := fun i hi => ih _ (sz_kidE hxd i hi) _
    have hlen : kids.length ≤ 9223372036854775807 := Kd.C_max hr
    have H := Aside0.mk (And.intro hr (And.intro hb (And.intro hg (And.intro hgs (And.intro hlen hkids)))))
    have hK := kidsOf_is kind
    clear hr hc hb hg hcnt hxd ih hB3 hv0 hf0 hC3 hW hkids hlen
    have HX := Aside0.mk (And.intro hX0 (And.intro hX1 (And.intro hX2 (And.intro hXb (And.intro hXc hXg)))))
    clear hX0 hX1 hX2 hXb hXc hXg
    go_enter Try.func113, Try.ntmps113
    go_upto_region 2 with fail
    rw [hWs.out]
    obtain ⟨hX0, hX1, hX2, hXb, hXc, hXg⟩ := HX.out
    clear hWs HX hgA hgF hgs hn0 hn1 hn2
    generalize w.heap.size = B at *
    by_cases k1 : kind = 1
    · subst k1
      go_upto_region 8 with (go_at_call 79; refine (within_anyE _ _ _ _).mono ?_; rintro e w' ⟨rfl, hq⟩; have hq2 := hq.symm; subst hq2; clear hq)
      have hnum : numB 1 n = (decide (0 ≤ n) && decide (n ≤ 11)) := by rw [numB, if_pos rfl]
      generalize (decide (0 ≤ n) && decide (n ≤ 11)) = okb at hnum ⊢
      have HN := Aside0.mk hnum
      clear hnum
      generalize hkm : kidsM 1 = km at hK
      have HM := Aside0.mk hkm
      clear hkm
      by_cases t1 : wrap64 (c + 1) > 400
      · go_quiet ((go_at_call 136; exact Calls.quiet_of_same (hK _)))
        have hC5 := CE.below hC3'.out (w2 := W.drewN nq) ⟨rfl, rfl, rfl, Nat.le_refl _, fun _ _ => rfl⟩
        go_wp2
        go_ret
        have := @countE_bad deep 1 n c kids (by simp [t1])
        rw [this]
        exact ⟨rfl, hC5⟩
      by_cases t3 : deep > 40
      · go_quiet ((go_at_call 136; exact Calls.quiet_of_same (hK _)))
        have hC5 := CE.below hC3'.out (w2 := W.drewN nq) ⟨rfl, rfl, rfl, Nat.le_refl _, fun _ _ => rfl⟩
        go_wp2
        go_ret
        have := @countE_bad deep 1 n c kids (by simp [t3])
        rw [this]
        exact ⟨rfl, hC5⟩
      by_cases t2 : (kids.length : Int) = km
      · cases okb with
        | false =>
          go_quiet ((go_at_call 136; exact Calls.quiet_of_same (hK _)))
          have hC5 := CE.below hC3'.out (w2 := W.drewN nq) ⟨rfl, rfl, rfl, Nat.le_refl _, fun _ _ => rfl⟩
          go_wp2
          go_ret
          have := @countE_bad deep 1 n c kids (by rw [HN.out]; simp)
          rw [this]
          exact ⟨rfl, hC5⟩
        | true =>
          have T := Aside0.mk (And.intro t1 (And.intro t3 t2))
          go_quiet ((go_at_call 136; exact Calls.quiet_of_same (hK _)))
          have hC5 := Aside0.mk (CE.below hC3'.out (w2 := W.drewN nq) ⟨rfl, rfl, rfl, Nat.le_refl _, fun _ _ => rfl⟩)
          replace hX2 : (W.drewN nq).cell? ⟨B, 2, none⟩ = some (.slice A2 kids.length c2) := hX2
          replace hXb : (W.drewN nq).cell? ⟨B + 1, 0, none⟩ = some (.int .i64 deep) := hXb
          replace hXc : (W.drewN nq).cell? ⟨B + 1 + 1, 0, none⟩ = some (.pointer (some ⟨g, 0, none⟩)) := hXc
          clear hX0 hX1 hXg hC3'
          generalize W.drewN nq = W3 at *
          obtain ⟨q1, q2, q3, q4, q5, q6⟩ := H.out
          have hcall := countE_kids deep (wrap64 (c + 1)) kids A2 c2 g B w0 w W3 q1 q2 q3 q4 hC5.out hXb hXc q5 q6
          clear q1 q2 q3 q4 q5 q6
          have hres := Aside0.mk (@countE_good deep 1 n c kids T.out.1 T.out.2.1 (T.out.2.2.trans HM.out.symm) HN.out)
          generalize countEs kids (wrap64 (deep + 1)) (wrap64 (c + 1)) = q at hcall hres
          obtain ⟨r1, r2⟩ := q
          simp only at hcall
          go_wp2_with (go_at_call 120; refine hcall.mono ?_; rintro e w' ⟨rfl, hb⟩)
          go_ret
          rw [hres.out]
          exact ⟨by simp, hC5.out.trans hb⟩
      · have HT := Aside0.mk t2
        go_quiet ((go_at_call 136; exact Calls.quiet_of_same (hK _)))
        have hC5 := CE.below hC3'.out (w2 := W.drewN nq) ⟨rfl, rfl, rfl, Nat.le_refl _, fun _ _ => rfl⟩
        go_wp2
        go_ret
        have := @countE_bad deep 1 n c kids (by rw [HM.out, beq_false_of_ne HT.out]; simp)
        rw [this]
        exact ⟨rfl, hC5⟩
    by_cases k2 : kind = 2
    · subst k2
      go_upto_region 8 with (go_at_call 79; refine (within_anyE _ _ _ _).mono ?_; rintro e w' ⟨rfl, hq⟩; have hq2 := hq.symm; subst hq2; clear hq)
      have hnum : numB 2 n = (decide (0 ≤ n) && decide (n ≤ 1)) := by rw [numB, if_neg (by decide), if_pos rfl]
      generalize (decide (0 ≤ n) && decide (n ≤ 1)) = okb at hnum ⊢
      have HN := Aside0.mk hnum
      clear hnum
      generalize hkm : kidsM 2 = km at hK
      have HM := Aside0.mk hkm
      clear hkm
      by_cases t1 : wrap64 (c + 1) > 400
      · go_quiet ((go_at_call 136; exact Calls.quiet_of_same (hK _)))
        have hC5 := CE.below hC3'.out (w2 := W.drewN nq) ⟨rfl, rfl, rfl, Nat.le_refl _, fun _ _ => rfl⟩
        go_wp2
        go_ret
        have := @countE_bad deep 2 n c kids (by simp [t1])
        rw [this]
        exact ⟨rfl, hC5⟩
      by_cases t3 : deep > 40
      · go_quiet ((go_at_call 136; exact Calls.quiet_of_same (hK _)))
        have hC5 := CE.below hC3'.out (w2 := W.drewN nq) ⟨rfl, rfl, rfl, Nat.le_refl _, fun _ _ => rfl⟩
        go_wp2
        go_ret
        have := @countE_bad deep 2 n c kids (by simp [t3])
        rw [this]
        exact ⟨rfl, hC5⟩
      by_cases t2 : (kids.length : Int) = km
      · cases okb with
        | false =>
          go_quiet ((go_at_call 136; exact Calls.quiet_of_same (hK _)))
          have hC5 := CE.below hC3'.out (w2 := W.drewN nq) ⟨rfl, rfl, rfl, Nat.le_refl _, fun _ _ => rfl⟩
          go_wp2
          go_ret
          have := @countE_bad deep 2 n c kids (by rw [HN.out]; simp)
          rw [this]
          exact ⟨rfl, hC5⟩
        | true =>
          have T := Aside0.mk (And.intro t1 (And.intro t3 t2))
          go_quiet ((go_at_call 136; exact Calls.quiet_of_same (hK _)))
          have hC5 := Aside0.mk (CE.below hC3'.out (w2 := W.drewN nq) ⟨rfl, rfl, rfl, Nat.le_refl _, fun _ _ => rfl⟩)
          replace hX2 : (W.drewN nq).cell? ⟨B, 2, none⟩ = some (.slice A2 kids.length c2) := hX2
          replace hXb : (W.drewN nq).cell? ⟨B + 1, 0, none⟩ = some (.int .i64 deep) := hXb
          replace hXc : (W.drewN nq).cell? ⟨B + 1 + 1, 0, none⟩ = some (.pointer (some ⟨g, 0, none⟩)) := hXc
          clear hX0 hX1 hXg hC3'
          generalize W.drewN nq = W3 at *
          obtain ⟨q1, q2, q3, q4, q5, q6⟩ := H.out
          have hcall := countE_kids deep (wrap64 (c + 1)) kids A2 c2 g B w0 w W3 q1 q2 q3 q4 hC5.out hXb hXc q5 q6
          clear q1 q2 q3 q4 q5 q6
          have hres := Aside0.mk (@countE_good deep 2 n c kids T.out.1 T.out.2.1 (T.out.2.2.trans HM.out.symm) HN.out)
          generalize countEs kids (wrap64 (deep + 1)) (wrap64 (c + 1)) = q at hcall hres
          obtain ⟨r1, r2⟩ := q
          simp only at hcall
          go_wp2_with (go_at_call 120; refine hcall.mono ?_; rintro e w' ⟨rfl, hb⟩)
          go_ret
          rw [hres.out]
          exact ⟨by simp, hC5.out.trans hb⟩
      · have HT := Aside0.mk t2
        go_quiet ((go_at_call 136; exact Calls.quiet_of_same (hK _)))
        have hC5 := CE.below hC3'.out (w2 := W.drewN nq) ⟨rfl, rfl, rfl, Nat.le_refl _, fun _ _ => rfl⟩
        go_wp2
        go_ret
        have := @countE_bad deep 2 n c kids (by rw [HM.out, beq_false_of_ne HT.out]; simp)
        rw [this]
        exact ⟨rfl, hC5⟩
    go_upto_region 8 with (go_at_call 79; refine (within_anyE _ _ _ _).mono ?_; rintro e w' ⟨rfl, hq⟩; have hq2 := hq.symm; subst hq2; clear hq)
    have hnum : numB kind n = (n == 0) := by rw [numB, if_neg k1, if_neg k2]
    generalize (n == 0) = okb at hnum ⊢
    have HN := Aside0.mk hnum
    clear hnum
    generalize hkm : kidsM kind = km at hK
    have HM := Aside0.mk hkm
    clear hkm
    by_cases t1 : wrap64 (c + 1) > 400
    · go_quiet ((go_at_call 136; exact Calls.quiet_of_same (hK _)))
      have hC5 := CE.below hC3'.out (w2 := W.drewN nq) ⟨rfl, rfl, rfl, Nat.le_refl _, fun _ _ => rfl⟩
      go_wp2
      go_ret
      have := @countE_bad deep kind n c kids (by simp [t1])
      rw [this]
      exact ⟨rfl, hC5⟩
    by_cases t3 : deep > 40
    · go_quiet ((go_at_call 136; exact Calls.quiet_of_same (hK _)))
      have hC5 := CE.below hC3'.out (w2 := W.drewN nq) ⟨rfl, rfl, rfl, Nat.le_refl _, fun _ _ => rfl⟩
      go_wp2
      go_ret
      have := @countE_bad deep kind n c kids (by simp [t3])
      rw [this]
      exact ⟨rfl, hC5⟩
    by_cases t2 : (kids.length : Int) = km
    · cases okb with
      | false =>
        go_quiet ((go_at_call 136; exact Calls.quiet_of_same (hK _)))
        have hC5 := CE.below hC3'.out (w2 := W.drewN nq) ⟨rfl, rfl, rfl, Nat.le_refl _, fun _ _ => rfl⟩
        go_wp2
        go_ret
        have := @countE_bad deep kind n c kids (by rw [HN.out]; simp)
        rw [this]
        exact ⟨rfl, hC5⟩
      | true =>
        have T := Aside0.mk (And.intro t1 (And.intro t3 t2))
        go_quiet ((go_at_call 136; exact Calls.quiet_of_same (hK _)))
        have hC5 := Aside0.mk (CE.below hC3'.out (w2 := W.drewN nq) ⟨rfl, rfl, rfl, Nat.le_refl _, fun _ _ => rfl⟩)
        replace hX2 : (W.drewN nq).cell? ⟨B, 2, none⟩ = some (.slice A2 kids.length c2) := hX2
        replace hXb : (W.drewN nq).cell? ⟨B + 1, 0, none⟩ = some (.int .i64 deep) := hXb
        replace hXc : (W.drewN nq).cell? ⟨B + 1 + 1, 0, none⟩ = some (.pointer (some ⟨g, 0, none⟩)) := hXc
        clear hX0 hX1 hXg hC3'
        generalize W.drewN nq = W3 at *
        obtain ⟨q1, q2, q3, q4, q5, q6⟩ := H.out
        have hcall := countE_kids deep (wrap64 (c + 1)) kids A2 c2 g B w0 w W3 q1 q2 q3 q4 hC5.out hXb hXc q5 q6
        clear q1 q2 q3 q4 q5 q6
        have hres := Aside0.mk (@countE_good deep kind n c kids T.out.1 T.out.2.1 (T.out.2.2.trans HM.out.symm) HN.out)
        generalize countEs kids (wrap64 (deep + 1)) (wrap64 (c + 1)) = q at hcall hres
        obtain ⟨r1, r2⟩ := q
        simp only at hcall
        go_wp2_with (go_at_call 120; refine hcall.mono ?_; rintro e w' ⟨rfl, hb⟩)
        go_ret
        rw [hres.out]
        exact ⟨by simp, hC5.out.trans hb⟩
    · have HT := Aside0.mk t2
      go_quiet ((go_at_call 136; exact Calls.quiet_of_same (hK _)))
      have hC5 := CE.below hC3'.out (w2 := W.drewN nq) ⟨rfl, rfl, rfl, Nat.le_refl _, fun _ _ => rfl⟩
      go_wp2
      go_ret
      have := @countE_bad deep kind n c kids (by rw [HM.out, beq_false_of_ne HT.out]; simp)
      rw [this]
      exact ⟨rfl, hC5⟩

end Go.Proofs.Ytcmkkoggdcjceaa.PFnExactAtMostEx
