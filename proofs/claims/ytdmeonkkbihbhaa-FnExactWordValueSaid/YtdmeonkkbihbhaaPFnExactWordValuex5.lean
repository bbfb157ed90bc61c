/- WRITTEN BY A PROGRAM OF THIS SESSION (wip/xprint) OVER THE KIT's PRINT, FOR THIS CLAIM: for Go functions that the law reaches, one Lean function each and the proof that Go's call comes to its answer. No conditions but those that each theorem names. -/
import Derived.Test.YtdmeonkkbihbhaaPFnExactWordValuex0
import Derived.Test.YtdmeonkkbihbhaaPFnExactWordValuex4
namespace Go.Proofs.Ytdmeonkkbihbhaa.PFnExactWordValue
open Go.RowKit Go.Proofs.YtdmeonkkbihbhaaW.PrintWords Go.Proofs.YtdmeonkkbihbhaaW.PrintLast Go.Proofs.YtdmeonkkbihbhaaW.PrintMore
attribute [local go_sem] max2_int min2_int max_two min_two max_three min_three max_four min_four   -- for this text's walks alone
set_option linter.unusedVariables false
set_option linter.unusedSimpArgs false

/-! ### impl_countWord: function 99 -/
/-! a counter behind a pointer: block g holds it; what else was there lies as it lay -/
structure CB (g : Nat) (c : Int) (w w' : World) : Prop where
  os : w'.os = w.os
  tape : w'.tape = w.tape
  output : w'.output = w.output
  size : w.heap.size ≤ w'.heap.size
  block : ∀ k, k < w.heap.size → k ≠ g → w'.heap[k]? = w.heap[k]?
  cnt : w'.heap[g]? = some (.cells #[.int .i64 c] 3 (0, 0))
theorem CB.refl {g : Nat} {c : Int} {w : World} (h : w.heap[g]? = some (.cells #[.int .i64 c] 3 (0, 0))) : CB g c w w := ⟨rfl, rfl, rfl, Nat.le_refl _, fun _ _ _ => rfl, h⟩
theorem CB.trans {g : Nat} {c c1 : Int} {w w1 w2 : World} (h : CB g c w w1) (k : CB g c1 w1 w2) : CB g c1 w w2 :=
  ⟨k.os.trans h.os, k.tape.trans h.tape, k.output.trans h.output, Nat.le_trans h.size k.size, fun i hi hg => (k.block i (Nat.lt_of_lt_of_le hi h.size) hg).trans (h.block i hi hg), k.cnt⟩
theorem CB.lt {g : Nat} {c : Int} {w w' : World} (h : CB g c w w') : g < w'.heap.size := (Array.getElem?_eq_some_iff.1 h.cnt).1
theorem CB.below {g : Nat} {c : Int} {w w1 w2 : World} (h : CB g c w w1) (k : Below w1.heap.size w1 w2) : CB g c w w2 :=
  ⟨k.os.trans h.os, k.tape.trans h.tape, k.output.trans h.output, Nat.le_trans h.size k.size, fun i hi hg => (k.block i (Nat.lt_of_lt_of_le hi h.size)).trans (h.block i hi hg), (k.block g h.lt).trans h.cnt⟩
theorem CB.cell {g : Nat} {c : Int} {w w' : World} (h : CB g c w w') {k o : Nat} (hk : k < w.heap.size) (hg : k ≠ g) : w'.cell? ⟨k, o, none⟩ = w.cell? ⟨k, o, none⟩ := World.cell?_of_block (w := w) (h.block k hk hg)
theorem CB.val {g : Nat} {c : Int} {w w' : World} (h : CB g c w w') : w'.cell? ⟨g, 0, none⟩ = some (.int .i64 c) := (blk_cell h.cnt 0).trans rfl
theorem CB.free {g : Nat} {c : Int} {w w' : World} (h : CB g c w w') : w'.frozen? ⟨g, 0, none⟩ = false := blk_frozen h.cnt 0
theorem CB.set {g : Nat} {c c1 : Int} {w w' : World} (h : CB g c w w') : CB g c1 w (w'.setCell ⟨g, 0, none⟩ (.int .i64 c1)) :=
  ⟨h.os, h.tape, h.output, by simpa [World.setCell] using h.size, fun i hi hg => (Below.heap_setCell w' ⟨g, 0, none⟩ _ i hg).trans (h.block i hi hg), by
    have := h.cnt
    simp only [World.setCell, Array.getElem?_modify, if_true, this]
    rfl⟩
/-- A row that is read lies as it lay, where its blocks are old and none is the counter. -/
theorem within_any (a lo hi : Int) (w : World) : Calls Try.prog 86 #[.int .i64 a, .int .i64 lo, .int .i64 hi] w fun e w' => e = .returned (.bool (decide (lo ≤ a) && decide (a ≤ hi))) ∧ w' = w := by
  by_cases h : lo ≤ a
  · rw [decide_eq_true h, Bool.true_and]
    go_enter Try.func86, Try.ntmps86
    go_wp2
    go_ret
    exact ⟨rfl, rfl⟩
  · rw [decide_eq_false h, Bool.false_and]
    go_enter Try.func86, Try.ntmps86
    go_wp2
    go_ret
    exact ⟨rfl, rfl⟩
/-- what a word's kind wants: how many Kids, and whether its number is right -/
def okW (bits kind n : Int) : Option (Int × Bool) :=
  if kind = 1 then some (0, decide (0 ≤ n) && decide (n ≤ wrap64 (wrap64 (2 ^ bits.toNat) - 1)))
  else if kind = 2 then some (0, decide (0 ≤ n) && decide (n ≤ wrap64 ((12 : Int) / bits - 1)))
  else if kind = 3 then some (2, n == 0) else if kind = 4 then some (2, n == 0) else if kind = 5 then some (2, n == 0) else none
mutual
/-- whether a word is right, and the count of nodes behind it -/
def countW (bits : Int) : S40 → Int → Bool × Int
  | ⟨kind, n, kids⟩, c => match okW bits kind n with
    | none => (false, wrap64 (c + 1))
    | some (m, ok) => if decide (wrap64 (c + 1) > 9) || (!ok || !((kids.length : Int) == m)) then (false, wrap64 (c + 1)) else countWs bits kids (wrap64 (c + 1))
def countWs (bits : Int) : List (S40) → Int → Bool × Int
  | [], c => (true, c)
  | x :: r, c => match countW bits x c with
    | (true, c1) => countWs bits r c1
    | (false, c1) => (false, c1)
end
/-- the count behind the first i of some Kids, each looked at -/
def stW (bits : Int) (l : List (S40)) (c : Int) : Nat → Int
  | 0 => c
  | i + 1 => (countW bits (rd_T40 l (i : Int)) (stW bits l c i)).2
theorem countWs_all (bits : Int) (c : Int) (l : List (S40)) (h : ∀ j, j < l.length → (countW bits (rd_T40 l (j : Int)) (stW bits l c j)).1 = true) : countWs bits l c = (true, stW bits l c l.length) := by
  have key : ∀ d i, i + d = l.length → countWs bits (l.drop i) (stW bits l c i) = (true, stW bits l c l.length) := by
    intro d
    induction d with
    | zero =>
      intro i hi
      obtain rfl : i = l.length := by omega
      rw [List.drop_length, countWs]
    | succ d ih =>
      intro i hi
      have hil : i < l.length := by omega
      have hr : rd_T40 l (i : Int) = l[i] := by unfold rd_T40; simp [List.getD, hil]
      rw [List.drop_eq_getElem_cons hil, countWs]
      have h1 := h i hil
      rw [hr] at h1
      have h2 := ih (i + 1) (by omega)
      rw [stW, hr] at h2
      generalize countW bits l[i] (stW bits l c i) = q at h1 h2
      obtain ⟨q1, q2⟩ := q
      subst h1
      exact h2
  have := key l.length 0 (by omega)
  rw [List.drop_zero, stW] at this
  exact this
theorem countWs_hit (bits : Int) (c : Int) (l : List (S40)) (i : Nat) (hi : i < l.length) (hf : (countW bits (rd_T40 l (i : Int)) (stW bits l c i)).1 = false) (h : ∀ j, j < i → (countW bits (rd_T40 l (j : Int)) (stW bits l c j)).1 = true) : countWs bits l c = (false, stW bits l c (i + 1)) := by
  have key : ∀ d k, k + d = i → countWs bits (l.drop k) (stW bits l c k) = (false, stW bits l c (i + 1)) := by
    intro d
    induction d with
    | zero =>
      intro k hk
      obtain rfl : k = i := by omega
      have hr : rd_T40 l (k : Int) = l[k] := by unfold rd_T40; simp [List.getD, hi]
      rw [List.drop_eq_getElem_cons hi, countWs, stW]
      rw [hr] at hf ⊢
      generalize countW bits l[k] (stW bits l c k) = q at hf ⊢
      obtain ⟨q1, q2⟩ := q
      subst hf
      rfl
    | succ d ih =>
      intro k hk
      have hkl : k < l.length := by omega
      have hr : rd_T40 l (k : Int) = l[k] := by unfold rd_T40; simp [List.getD, hkl]
      rw [List.drop_eq_getElem_cons hkl, countWs]
      have h1 := h k (by omega)
      rw [hr] at h1
      have h2 := ih (k + 1) (by omega)
      rw [stW, hr] at h2
      generalize countW bits l[k] (stW bits l c k) = q at h1 h2
      obtain ⟨q1, q2⟩ := q
      subst h1
      exact h2
  have := key i 0 (by omega)
  rw [List.drop_zero, stW] at this
  exact this
/-- what a call of countWord does -/
def SaidW (bits : Int) (x : S40) : Prop := ∀ (c : Int) (A2 : Option Addr) (c2 : Nat) (g : Nat) (w0 w : World), Kd.C k40 w0 A2 x.f2.length x.f2 → x.f2.length ≤ c2 → Below w0.heap.size w0 w → w0.heap.size ≤ g → w.heap[g]? = some (.cells #[.int .i64 c] 3 (0, 0)) →
  Calls Try.prog 99 #[.agg #[.int .i64 x.f0, .int .i64 x.f1, .slice A2 x.f2.length c2], .int .i64 bits, .pointer (some ⟨g, 0, none⟩)] w fun e w' => e = .returned (.bool (countW bits x c).1) ∧ CB g (countW bits x c).2 w w'
theorem CB.base {g : Nat} {c : Int} {w0 w w' : World} (h : CB g c w w') (hb : Below w0.heap.size w0 w) (hg : w0.heap.size ≤ g) : Below w0.heap.size w0 w' :=
  ⟨h.os.trans hb.os, h.tape.trans hb.tape, h.output.trans hb.output, Nat.le_trans hb.size h.size, fun k hk => (h.block k (Nat.lt_of_lt_of_le hk hb.size) (by omega)).trans (hb.block k hk)⟩
set_option maxHeartbeats 4000000 in
set_option maxRecDepth 100000 in
theorem countW_fn (bits : Int) (x : S40) (hx : SaidW bits x) (c : Int) (A2 : Option Addr) (c2 : Nat) (g B : Nat) (w0 w : World) (hr : Kd.C k40 w0 A2 x.f2.length x.f2) (hc : x.f2.length ≤ c2) (hb : Below w0.heap.size w0 w) (hg : w0.heap.size ≤ g) (hcnt : w.heap[g]? = some (.cells #[.int .i64 c] 3 (0, 0)))
    (h1 : w.cell? ⟨B, 0, none⟩ = some (.int .i64 bits)) (h2 : w.cell? ⟨B + 1, 0, none⟩ = some (.pointer (some ⟨g, 0, none⟩))) :
    Calls Try.prog 116 #[.agg #[.int .i64 x.f0, .int .i64 x.f1, .slice A2 x.f2.length c2], .pointer (some ⟨B, 0, none⟩), .pointer (some ⟨B + 1, 0, none⟩)] w fun e w' => e = .returned (.bool (!(countW bits x c).1)) ∧ CB g (countW bits x c).2 w w' := by
  have hcall := hx c A2 c2 g w0 (w.alloc (.cells #[.int .i64 x.f0, .int .i64 x.f1, .slice A2 x.f2.length c2] 40)) hr hc (hb.alloc hb.size _) hg ((((Below.refl w.heap.size w).alloc (Nat.le_refl _) _).block g (Array.getElem?_eq_some_iff.1 hcnt).1).trans hcnt)
  have hB : Below w.heap.size w (w.alloc (.cells #[.int .i64 x.f0, .int .i64 x.f1, .slice A2 x.f2.length c2] 40)) := (Below.refl _ _).alloc (Nat.le_refl _) _
  have h1' := (hB.cell (World.block_lt_of_cell? w _ h1)).trans h1
  have h2' := (hB.cell (World.block_lt_of_cell? w _ h2)).trans h2
  have H := Aside0.mk hcnt
  have hu := Try.underlying40
  clear hr hc hb hg h1 h2 hcnt hx
  generalize countW bits x c = q at hcall ⊢
  obtain ⟨q1, q2⟩ := q
  simp only at hcall ⊢
  go_enter Try.func116, Try.ntmps116
  go_wp2_with (go_at_call 99; refine hcall.mono ?_; rintro e w' ⟨rfl, hb⟩)
  go_ret
  exact ⟨rfl, ((CB.refl H.out).below hB).trans hb⟩
theorem below3 (w : World) (a b c : Obj) : Below w.heap.size w (((w.alloc a).alloc b).alloc c) := by
  have h1 := (Below.refl w.heap.size w).alloc (Nat.le_refl _) a
  have h2 := h1.alloc h1.size b
  exact h2.alloc h2.size c
theorem countW_none {bits kind n c : Int} {kids : List (S40)} (h : okW bits kind n = none) : countW bits ⟨kind, n, kids⟩ c = (false, wrap64 (c + 1)) := by rw [countW, h]
theorem countW_bad {bits kind n c m : Int} {ok : Bool} {kids : List (S40)} (h : okW bits kind n = some (m, ok)) (hb : (decide (wrap64 (c + 1) > 9) || (!ok || !((kids.length : Int) == m))) = true) : countW bits ⟨kind, n, kids⟩ c = (false, wrap64 (c + 1)) := by
  rw [countW, h]
  simp only [hb, if_true]
theorem countW_good {bits kind n c m : Int} {kids : List (S40)} (h : okW bits kind n = some (m, true)) (h1 : ¬ wrap64 (c + 1) > 9) (h2 : (kids.length : Int) = m) : countW bits ⟨kind, n, kids⟩ c = countWs bits kids (wrap64 (c + 1)) := by
  rw [countW, h]
  simp [h1, h2]
theorem sz_kid {kind n : Int} {kids : List (S40)} {d : Nat} (h : SizeOf.sizeOf (⟨kind, n, kids⟩ : S40) < d + 1) (i : Nat) (hi : i < kids.length) : SizeOf.sizeOf (rd_T40 kids (i : Int)) < d := by
  have hr : rd_T40 kids (i : Int) = kids[i] := by unfold rd_T40; simp [List.getD, hi]
  rw [hr]
  have := List.sizeOf_lt_of_mem (List.getElem_mem hi)
  simp at h
  omega
theorem CB.kid {g : Nat} {c c1 : Int} {w0 w W3 W' : World} (hb : Below w0.heap.size w0 w) (hg : w0.heap.size ≤ g) (h3 : CB g c1 w W3) (h : CB g c W3 W') : Below w0.heap.size w0 W' := (h3.trans h).base hb hg
/-- the call of slices.ContainsFunc over the Kids -/
theorem countW_kids (bits c1 : Int) (kids : List (S40)) (A2 : Option Addr) (c2 g B : Nat) (w0 w W3 : World) (hd : Kd.C k40 w0 A2 kids.length kids) (hb : Below w0.heap.size w0 w) (hg : w0.heap.size ≤ g) (hgB : g < B) (h3 : CB g c1 w W3)
    (hYb : W3.cell? ⟨B + 1, 0, none⟩ = some (.int .i64 bits)) (hYc : W3.cell? ⟨B + 1 + 1, 0, none⟩ = some (.pointer (some ⟨g, 0, none⟩))) (hn : kids.length ≤ 9223372036854775807) (hk : ∀ i : Nat, i < kids.length → SaidW bits (rd_T40 kids (i : Int))) :
    Calls Try.prog 115 #[.slice A2 kids.length c2, .func (.func 116) #[] #[.pointer (some ⟨B + 1, 0, none⟩), .pointer (some ⟨B + 1 + 1, 0, none⟩)]] W3 fun e w' => e = .returned (.bool (!(countWs bits kids c1).1)) ∧ CB g (countWs bits kids c1).2 W3 w' := by
  refine (any40 (fun i W' => CB g (stW bits kids c1 i) W3 W') (fun i => !(countW bits (rd_T40 kids (i : Int)) (stW bits kids c1 i)).1) kids 116 #[.pointer (some ⟨B + 1, 0, none⟩), .pointer (some ⟨B + 1 + 1, 0, none⟩)] (enters_of Try.func116 (by kernel_rfl) rfl) A2 c2 W3 hn (CB.refl h3.cnt) w0 hd (fun i W' h => CB.kid hb hg h3 h) ?_).mono ?_
  · intro i hi _ W' hW A' c' hd' hc'
    have e1 := (hW.cell (World.block_lt_of_cell? W3 _ hYb) (show B + 1 ≠ g by omega)).trans hYb
    have e2 := (hW.cell (World.block_lt_of_cell? W3 _ hYc) (show B + 1 + 1 ≠ g by omega)).trans hYc
    refine (countW_fn bits _ (hk i hi) (stW bits kids c1 i) A' c' g (B + 1) w0 W' hd' hc' (CB.kid hb hg h3 hW) hg hW.cnt e1 e2).mono ?_
    rintro e w' ⟨rfl, h⟩
    exact ⟨rfl, hW.trans h⟩
  · rintro e w' ⟨b, rfl, m, hm, hI, h⟩
    rcases h with ⟨rfl, rfl, h⟩ | ⟨rfl, i, rfl, h1, h⟩
    · have := countWs_all bits c1 kids (fun j hj => by simpa using h j hj)
      rw [this]
      exact ⟨rfl, hI⟩
    · have := countWs_hit bits c1 kids i (by omega) (by simpa using h1) (fun j hj => by simpa using h j hj)
      rw [this]
      exact ⟨rfl, hI⟩
set_option maxHeartbeats 4000000 in
set_option maxRecDepth 100000 in
theorem countW_calls (bits : Int) (hb1 : 1 ≤ bits) (hb2 : bits ≤ 6) : ∀ (d : Nat) (x : S40), SizeOf.sizeOf x < d → SaidW bits x := by
  intro d
  induction d with
  | zero => exact fun x h => absurd h (Nat.not_lt_zero _)
  | succ d ih =>
    intro x hxd c A2 c2 g w0 w hr hc hb hg hcnt
    obtain ⟨kind, n, kids⟩ := x
    have hgs : g < w.heap.size := (Array.getElem?_eq_some_iff.1 hcnt).1
    have hv0 : w.cell? ⟨g, 0, none⟩ = some (.int .i64 c) := (blk_cell hcnt 0).trans rfl
    have hf0 : w.frozen? ⟨g, 0, none⟩ = false := blk_frozen hcnt 0
    have hB3 : Below w.heap.size w (((w.alloc (.cells #[.int .i64 kind, .int .i64 n, .slice A2 kids.length c2] 40)).alloc (.cells #[.int .i64 bits] 3)).alloc (.cells #[.pointer (some ⟨g, 0, none⟩)] 136)) := below3 _ _ _ _
    have hgA := (hB3.cell (p := ⟨g, 0, none⟩) hgs).trans hv0
    have hgF := (World.frozen?_of_block (a := ⟨g, 0, none⟩) (hB3.block g hgs)).trans hf0
    have hn0 : g ≠ w.heap.size := by omega
    have hn1 : g ≠ w.heap.size + 1 := by omega
    have hn2 : g ≠ w.heap.size + 1 + 1 := by omega
    obtain ⟨W, hW, hX0, hX1, hX2, hXb, hXc, hXg, hC3⟩ : ∃ W, ((((w.alloc (.cells #[.int .i64 kind, .int .i64 n, .slice A2 kids.length c2] 40)).alloc (.cells #[.int .i64 bits] 3)).alloc (.cells #[.pointer (some ⟨g, 0, none⟩)] 136)).setCell ⟨g, 0, none⟩ (.int .i64 (wrap64 (c + 1)))) = W ∧ W.cell? ⟨w.heap.size, 0, none⟩ = some (.int .i64 kind) ∧ W.cell? ⟨w.heap.size, 1, none⟩ = some (.int .i64 n) ∧ W.cell? ⟨w.heap.size, 2, none⟩ = some (.slice A2 kids.length c2) ∧ W.cell? ⟨w.heap.size + 1, 0, none⟩ = some (.int .i64 bits) ∧ W.cell? ⟨w.heap.size + 1 + 1, 0, none⟩ = some (.pointer (some ⟨g, 0, none⟩)) ∧ W.cell? ⟨g, 0, none⟩ = some (.int .i64 (wrap64 (c + 1))) ∧ CB g (wrap64 (c + 1)) w W := by
      have h3 := (((CB.refl hcnt).below hB3).set (c1 := wrap64 (c + 1)))
      refine ⟨_, rfl, ?_, ?_, ?_, ?_, ?_, h3.val, h3⟩
      · go_simp
      · go_simp
      · go_simp
      · go_simp
      · go_simp
    have hWs := Aside0.mk hW
    have hC3' := Aside0.mk hC3
    have hkids : ∀ i : Nat, i < kids.length → SaidW bits (rd_T40 kids (i : Int)) := fun i hi => ih _ (sz_kid hxd i hi)
    have hlen : kids.length ≤ 9223372036854775807 := Kd.C_max hr
    have H := Aside0.mk (And.intro hr (And.intro hb (And.intro hg (And.intro hgs (And.intro hlen hkids)))))
    clear hr hc hb hg hcnt hxd ih hB3 hv0 hf0 hC3 hW hkids hlen
    have HX := Aside0.mk (And.intro hX0 (And.intro hX1 (And.intro hX2 (And.intro hXb (And.intro hXc hXg)))))
    clear hX0 hX1 hX2 hXb hXc hXg
    go_enter Try.func99, Try.ntmps99
    go_upto_region 2 with fail
    rw [hWs.out]
    obtain ⟨hX0, hX1, hX2, hXb, hXc, hXg⟩ := HX.out
    clear hWs HX hgA hgF hgs hn0 hn1 hn2
    generalize w.heap.size = B at *
    go_quiet (fail)
    have hC4 := Aside0.mk (CB.below hC3'.out (w2 := W.drewN nq) ⟨rfl, rfl, rfl, Nat.le_refl _, fun _ _ => rfl⟩)
    have hY0 : (W.drewN nq).cell? ⟨B, 0, none⟩ = some (.int .i64 kind) := hX0
    have hY1 : (W.drewN nq).cell? ⟨B, 1, none⟩ = some (.int .i64 n) := hX1
    have hY2 : (W.drewN nq).cell? ⟨B, 2, none⟩ = some (.slice A2 kids.length c2) := hX2
    have hYb : (W.drewN nq).cell? ⟨B + 1, 0, none⟩ = some (.int .i64 bits) := hXb
    have hYc : (W.drewN nq).cell? ⟨B + 1 + 1, 0, none⟩ = some (.pointer (some ⟨g, 0, none⟩)) := hXc
    have hYg : (W.drewN nq).cell? ⟨g, 0, none⟩ = some (.int .i64 (wrap64 (c + 1))) := hXg
    clear hX0 hX1 hX2 hXb hXc hXg hC3'
    generalize W.drewN nq = W2 at *
    by_cases k1 : kind = 1
    · subst k1
      go_upto_region 6 with fail
      go_quiet ((go_at_call 86; exact Calls.quiet_of_same (within_any _ _ _ _)))
      go_upto_region 12 with fail
      have hC5 := Aside0.mk (CB.below hC4.out (w2 := W2.drewN nq) ⟨rfl, rfl, rfl, Nat.le_refl _, fun _ _ => rfl⟩)
      replace hY0 : (W2.drewN nq).cell? ⟨B, 0, none⟩ = some (.int .i64 1) := hY0
      replace hY2 : (W2.drewN nq).cell? ⟨B, 2, none⟩ = some (.slice A2 kids.length c2) := hY2
      replace hYb : (W2.drewN nq).cell? ⟨B + 1, 0, none⟩ = some (.int .i64 bits) := hYb
      replace hYc : (W2.drewN nq).cell? ⟨B + 1 + 1, 0, none⟩ = some (.pointer (some ⟨g, 0, none⟩)) := hYc
      replace hYg : (W2.drewN nq).cell? ⟨g, 0, none⟩ = some (.int .i64 (wrap64 (c + 1))) := hYg
      clear hY1 hC4
      generalize W2.drewN nq = W3 at *
      generalize hok : (decide (0 ≤ n) && decide (n ≤ wrap64 (wrap64 (2 ^ bits.toNat) - 1))) = okb
      have H1 := Aside0.mk hok
      clear hok
      by_cases t1 : wrap64 (c + 1) > 9
      · go_wp2
        go_ret
        have := @countW_bad bits 1 n c 0 okb kids (by rw [okW, if_pos rfl, H1.out]) (by simp [t1])
        rw [this]
        exact ⟨rfl, hC5.out⟩
      · have T1 := Aside0.mk t1
        cases okb with
        | false =>
          go_wp2
          go_ret
          have := @countW_bad bits 1 n c 0 false kids (by rw [okW, if_pos rfl, H1.out]) (by simp)
          rw [this]
          exact ⟨rfl, hC5.out⟩
        | true =>
          by_cases t2 : (kids.length : Int) = 0
          · have T2 := Aside0.mk t2
            obtain ⟨q1, q2, q3, q4, q5, q6⟩ := H.out
            have hcall := countW_kids bits (wrap64 (c + 1)) kids A2 c2 g B w0 w W3 q1 q2 q3 q4 hC5.out hYb hYc q5 q6
            clear q1 q2 q3 q4 q5 q6
            have hres := Aside0.mk (@countW_good bits 1 n c 0 kids (by rw [okW, if_pos rfl, H1.out]) t1 t2)
            generalize countWs bits kids (wrap64 (c + 1)) = q at hcall hres
            obtain ⟨r1, r2⟩ := q
            simp only at hcall
            go_wp2_with (go_at_call 115; refine hcall.mono ?_; rintro e w' ⟨rfl, hb⟩)
            go_ret
            rw [hres.out]
            exact ⟨by simp, hC5.out.trans hb⟩
          · go_wp2
            go_ret
            have := @countW_bad bits 1 n c 0 true kids (by rw [okW, if_pos rfl, H1.out]) (by rw [beq_false_of_ne t2]; simp)
            rw [this]
            exact ⟨rfl, hC5.out⟩
    · by_cases k2 : kind = 2
      · subst k2
        have hbz : ¬ bits = 0 := by omega
        go_upto_region 8 with fail
        go_quiet ((go_at_call 86; exact Calls.quiet_of_same (within_any _ _ _ _)))
        go_upto_region 12 with fail
        have hC5 := Aside0.mk (CB.below hC4.out (w2 := W2.drewN nq) ⟨rfl, rfl, rfl, Nat.le_refl _, fun _ _ => rfl⟩)
        replace hY0 : (W2.drewN nq).cell? ⟨B, 0, none⟩ = some (.int .i64 2) := hY0
        replace hY2 : (W2.drewN nq).cell? ⟨B, 2, none⟩ = some (.slice A2 kids.length c2) := hY2
        replace hYb : (W2.drewN nq).cell? ⟨B + 1, 0, none⟩ = some (.int .i64 bits) := hYb
        replace hYc : (W2.drewN nq).cell? ⟨B + 1 + 1, 0, none⟩ = some (.pointer (some ⟨g, 0, none⟩)) := hYc
        replace hYg : (W2.drewN nq).cell? ⟨g, 0, none⟩ = some (.int .i64 (wrap64 (c + 1))) := hYg
        clear hY1 hC4
        generalize W2.drewN nq = W3 at *
        generalize hok : (decide (0 ≤ n) && decide (n ≤ wrap64 (12 / bits - 1))) = okb
        have H1 := Aside0.mk hok
        clear hok
        by_cases t1 : wrap64 (c + 1) > 9
        · go_wp2
          go_ret
          have := @countW_bad bits 2 n c 0 okb kids (by rw [okW, if_neg (by decide), if_pos rfl, H1.out]) (by simp [t1])
          rw [this]
          exact ⟨rfl, hC5.out⟩
        · have T1 := Aside0.mk t1
          cases okb with
          | false =>
            go_wp2
            go_ret
            have := @countW_bad bits 2 n c 0 false kids (by rw [okW, if_neg (by decide), if_pos rfl, H1.out]) (by simp)
            rw [this]
            exact ⟨rfl, hC5.out⟩
          | true =>
            by_cases t2 : (kids.length : Int) = 0
            · have T2 := Aside0.mk t2
              obtain ⟨q1, q2, q3, q4, q5, q6⟩ := H.out
              have hcall := countW_kids bits (wrap64 (c + 1)) kids A2 c2 g B w0 w W3 q1 q2 q3 q4 hC5.out hYb hYc q5 q6
              clear q1 q2 q3 q4 q5 q6
              have hres := Aside0.mk (@countW_good bits 2 n c 0 kids (by rw [okW, if_neg (by decide), if_pos rfl, H1.out]) t1 t2)
              generalize countWs bits kids (wrap64 (c + 1)) = q at hcall hres
              obtain ⟨r1, r2⟩ := q
              simp only at hcall
              go_wp2_with (go_at_call 115; refine hcall.mono ?_; rintro e w' ⟨rfl, hb⟩)
              go_ret
              rw [hres.out]
              exact ⟨by simp, hC5.out.trans hb⟩
            · go_wp2
              go_ret
              have := @countW_bad bits 2 n c 0 true kids (by rw [okW, if_neg (by decide), if_pos rfl, H1.out]) (by rw [beq_false_of_ne t2]; simp)
              rw [this]
              exact ⟨rfl, hC5.out⟩
      · by_cases kk3 : kind = 3
        · subst kk3
          go_upto_region 12 with fail
          have hC5 := hC4
          generalize W2 = W3 at *
          generalize hok : (n == 0) = okb
          have H1 := Aside0.mk hok
          clear hok
          by_cases t1 : wrap64 (c + 1) > 9
          · go_wp2
            go_ret
            have := @countW_bad bits 3 n c 2 okb kids (by rw [okW, if_neg (by decide), if_neg (by decide), if_pos rfl, H1.out]) (by simp [t1])
            rw [this]
            exact ⟨rfl, hC5.out⟩
          · have T1 := Aside0.mk t1
            cases okb with
            | false =>
              go_wp2
              go_ret
              have := @countW_bad bits 3 n c 2 false kids (by rw [okW, if_neg (by decide), if_neg (by decide), if_pos rfl, H1.out]) (by simp)
              rw [this]
              exact ⟨rfl, hC5.out⟩
            | true =>
              by_cases t2 : (kids.length : Int) = 2
              · have T2 := Aside0.mk t2
                obtain ⟨q1, q2, q3, q4, q5, q6⟩ := H.out
                have hcall := countW_kids bits (wrap64 (c + 1)) kids A2 c2 g B w0 w W3 q1 q2 q3 q4 hC5.out hYb hYc q5 q6
                clear q1 q2 q3 q4 q5 q6
                have hres := Aside0.mk (@countW_good bits 3 n c 2 kids (by rw [okW, if_neg (by decide), if_neg (by decide), if_pos rfl, H1.out]) t1 t2)
                generalize countWs bits kids (wrap64 (c + 1)) = q at hcall hres
                obtain ⟨r1, r2⟩ := q
                simp only at hcall
                go_wp2_with (go_at_call 115; refine hcall.mono ?_; rintro e w' ⟨rfl, hb⟩)
                go_ret
                rw [hres.out]
                exact ⟨by simp, hC5.out.trans hb⟩
              · go_wp2
                go_ret
                have := @countW_bad bits 3 n c 2 true kids (by rw [okW, if_neg (by decide), if_neg (by decide), if_pos rfl, H1.out]) (by rw [beq_false_of_ne t2]; simp)
                rw [this]
                exact ⟨rfl, hC5.out⟩
        · by_cases k4 : kind = 4
          · subst k4
            go_upto_region 12 with fail
            have hC5 := hC4
            generalize W2 = W3 at *
            generalize hok : (n == 0) = okb
            have H1 := Aside0.mk hok
            clear hok
            by_cases t1 : wrap64 (c + 1) > 9
            · go_wp2
              go_ret
              have := @countW_bad bits 4 n c 2 okb kids (by rw [okW, if_neg (by decide), if_neg (by decide), if_neg (by decide), if_pos rfl, H1.out]) (by simp [t1])
              rw [this]
              exact ⟨rfl, hC5.out⟩
            · have T1 := Aside0.mk t1
              cases okb with
              | false =>
                go_wp2
                go_ret
                have := @countW_bad bits 4 n c 2 false kids (by rw [okW, if_neg (by decide), if_neg (by decide), if_neg (by decide), if_pos rfl, H1.out]) (by simp)
                rw [this]
                exact ⟨rfl, hC5.out⟩
              | true =>
                by_cases t2 : (kids.length : Int) = 2
                · have T2 := Aside0.mk t2
                  obtain ⟨q1, q2, q3, q4, q5, q6⟩ := H.out
                  have hcall := countW_kids bits (wrap64 (c + 1)) kids A2 c2 g B w0 w W3 q1 q2 q3 q4 hC5.out hYb hYc q5 q6
                  clear q1 q2 q3 q4 q5 q6
                  have hres := Aside0.mk (@countW_good bits 4 n c 2 kids (by rw [okW, if_neg (by decide), if_neg (by decide), if_neg (by decide), if_pos rfl, H1.out]) t1 t2)
                  generalize countWs bits kids (wrap64 (c + 1)) = q at hcall hres
                  obtain ⟨r1, r2⟩ := q
                  simp only at hcall
                  go_wp2_with (go_at_call 115; refine hcall.mono ?_; rintro e w' ⟨rfl, hb⟩)
                  go_ret
                  rw [hres.out]
                  exact ⟨by simp, hC5.out.trans hb⟩
                · go_wp2
                  go_ret
                  have := @countW_bad bits 4 n c 2 true kids (by rw [okW, if_neg (by decide), if_neg (by decide), if_neg (by decide), if_pos rfl, H1.out]) (by rw [beq_false_of_ne t2]; simp)
                  rw [this]
                  exact ⟨rfl, hC5.out⟩
          · by_cases k5 : kind = 5
            · subst k5
              go_upto_region 12 with fail
              have hC5 := hC4
              generalize W2 = W3 at *
              generalize hok : (n == 0) = okb
              have H1 := Aside0.mk hok
              clear hok
              by_cases t1 : wrap64 (c + 1) > 9
              · go_wp2
                go_ret
                have := @countW_bad bits 5 n c 2 okb kids (by rw [okW, if_neg (by decide), if_neg (by decide), if_neg (by decide), if_neg (by decide), if_pos rfl, H1.out]) (by simp [t1])
                rw [this]
                exact ⟨rfl, hC5.out⟩
              · have T1 := Aside0.mk t1
                cases okb with
                | false =>
                  go_wp2
                  go_ret
                  have := @countW_bad bits 5 n c 2 false kids (by rw [okW, if_neg (by decide), if_neg (by decide), if_neg (by decide), if_neg (by decide), if_pos rfl, H1.out]) (by simp)
                  rw [this]
                  exact ⟨rfl, hC5.out⟩
                | true =>
                  by_cases t2 : (kids.length : Int) = 2
                  · have T2 := Aside0.mk t2
                    obtain ⟨q1, q2, q3, q4, q5, q6⟩ := H.out
                    have hcall := countW_kids bits (wrap64 (c + 1)) kids A2 c2 g B w0 w W3 q1 q2 q3 q4 hC5.out hYb hYc q5 q6
                    clear q1 q2 q3 q4 q5 q6
                    have hres := Aside0.mk (@countW_good bits 5 n c 2 kids (by rw [okW, if_neg (by decide), if_neg (by decide), if_neg (by decide), if_neg (by decide), if_pos rfl, H1.out]) t1 t2)
                    generalize countWs bits kids (wrap64 (c + 1)) = q at hcall hres
                    obtain ⟨r1, r2⟩ := q
                    simp only at hcall
                    go_wp2_with (go_at_call 115; refine hcall.mono ?_; rintro e w' ⟨rfl, hb⟩)
                    go_ret
                    rw [hres.out]
                    exact ⟨by simp, hC5.out.trans hb⟩
                  · go_wp2
                    go_ret
                    have := @countW_bad bits 5 n c 2 true kids (by rw [okW, if_neg (by decide), if_neg (by decide), if_neg (by decide), if_neg (by decide), if_pos rfl, H1.out]) (by rw [beq_false_of_ne t2]; simp)
                    rw [this]
                    exact ⟨rfl, hC5.out⟩
            · go_wp2
              go_ret
              rw [countW_none (by simp [okW, k1, k2, kk3, k4, k5])]
              exact ⟨rfl, hC4.out⟩

/-! ### impl_isWord: function 63 -/
def impl_isWord.f (a0_0 a0_1 : Int) (l0_2 : List (S40)) (a1 : Int) : Option Bool := if decide (1 ≤ a1) && decide (a1 ≤ 6) then some (countW a1 ⟨a0_0, a0_1, l0_2⟩ 0).1 else some false
theorem within_is (a lo hi : Int) (b : Bool) (h : (decide (lo ≤ a) && decide (a ≤ hi)) = b) (w : World) : Calls Try.prog 86 #[.int .i64 a, .int .i64 lo, .int .i64 hi] w fun e w' => e = .returned (.bool b) ∧ w' = w := by
  subst h
  exact within_any a lo hi w
theorem heap2 (w : World) (a b : Obj) : ((w.alloc a).alloc b).heap[w.heap.size + 1]? = some b := by
  show ((w.heap.push a).push b)[w.heap.size + 1]? = some b
  rw [Array.getElem?_push]
  simp
theorem below2 (w : World) (a b : Obj) : Below w.heap.size w ((w.alloc a).alloc b) := by
  have h1 := (Below.refl w.heap.size w).alloc (Nat.le_refl _) a
  exact h1.alloc h1.size b
set_option maxHeartbeats 4000000 in
set_option maxRecDepth 100000 in
theorem impl_isWord.calls (a0_0 : Int) (a0_1 : Int) (A0_2 : Option Addr) (c0_2 : Nat) (l0_2 : List (S40)) (a1 : Int) (r : Bool) (w : World) (hr0_2 : Kd.C k40 w A0_2 l0_2.length l0_2) (hc0_2 : l0_2.length ≤ c0_2) (h : impl_isWord.f a0_0 a0_1 l0_2 a1 = some r) :
    Calls Try.prog 63 #[.agg #[.int .i64 a0_0, .int .i64 a0_1, .slice A0_2 l0_2.length c0_2], .int .i64 a1] w fun e w' => e = .returned (.bool r) ∧ Below w.heap.size w w' := by
  unfold impl_isWord.f at h
  by_cases hb1 : 1 ≤ a1
  · by_cases hb2 : a1 ≤ 6
    · rw [decide_eq_true hb1, decide_eq_true hb2] at h
      have hrr : (countW a1 ⟨a0_0, a0_1, l0_2⟩ 0).1 = r := by simpa using h
      have hB := below2 w (.cells #[.int .i64 a0_0, .int .i64 a0_1, .slice A0_2 l0_2.length c0_2] 40) (.cells #[.int .i64 0] 3)
      have hwi := within_is a1 1 6 true (by simp [hb1, hb2])
      have hcall := countW_calls a1 hb1 hb2 _ ⟨a0_0, a0_1, l0_2⟩ (Nat.lt_succ_self _) 0 A0_2 c0_2 (w.heap.size + 1) w ((w.alloc (.cells #[.int .i64 a0_0, .int .i64 a0_1, .slice A0_2 l0_2.length c0_2] 40)).alloc (.cells #[.int .i64 0] 3)) hr0_2 hc0_2 hB (by omega) (heap2 w _ _)
      rw [hrr] at hcall
      have HB := Aside0.mk hB
      clear h hr0_2 hc0_2 hrr hb1 hb2 hB
      go_enter Try.func63, Try.ntmps63
      go_wp2_with (first | (go_at_call 86; refine (hwi _).mono ?_; rintro e w' ⟨rfl, rfl⟩) | (go_at_call 99; refine hcall.mono ?_; rintro e w' ⟨rfl, hb⟩))
      go_ret
      exact ⟨rfl, hb.base HB.out (by omega)⟩
    · rw [decide_eq_false hb2] at h
      have hrr : false = r := by simpa using h
      subst hrr
      have hB := Aside0.mk (below2 w (.cells #[.int .i64 a0_0, .int .i64 a0_1, .slice A0_2 l0_2.length c0_2] 40) (.cells #[.int .i64 0] 3))
      have hwi := within_is a1 1 6 false (by simp [hb2])
      clear h hr0_2 hc0_2 hb1 hb2
      go_enter Try.func63, Try.ntmps63
      go_wp2_with (go_at_call 86; refine (hwi _).mono ?_; rintro e w' ⟨rfl, rfl⟩)
      go_ret
      exact ⟨rfl, hB.out⟩
  · rw [decide_eq_false hb1] at h
    have hrr : false = r := by simpa using h
    subst hrr
    have hB := Aside0.mk (below2 w (.cells #[.int .i64 a0_0, .int .i64 a0_1, .slice A0_2 l0_2.length c0_2] 40) (.cells #[.int .i64 0] 3))
    have hwi := within_is a1 1 6 false (by simp [hb1])
    clear h hr0_2 hc0_2 hb1
    go_enter Try.func63, Try.ntmps63
    go_wp2_with (go_at_call 86; refine (hwi _).mono ?_; rintro e w' ⟨rfl, rfl⟩)
    go_ret
    exact ⟨rfl, hB.out⟩

-- NOT PRINTED: function 113 (slices_IndexFunc_int_int)

/-! ### slices_ContainsFunc_int_int: function 93 -/
/-- one of the first n places at which p holds -/
def anyI (p : Nat → Bool) : Nat → Bool
  | 0 => false
  | n + 1 => anyI p n || p n
theorem anyI_none {p : Nat → Bool} : ∀ {n : Nat}, (∀ j, j < n → p j = false) → anyI p n = false
  | 0, _ => rfl
  | n + 1, h => by rw [anyI, anyI_none (fun j hj => h j (by omega)), h n (by omega)]; rfl
theorem anyI_some {p : Nat → Bool} : ∀ {n k : Nat}, k < n → p k = true → anyI p n = true
  | 0, _, h, _ => by omega
  | n + 1, k, h, hp => by
    rw [anyI]
    by_cases e : k = n
    · subst e; rw [hp]; simp
    · rw [anyI_some (show k < n by omega) hp]; simp
theorem anyI_list {α : Type} (q : α → Bool) (d : α) (p : Nat → Bool) : ∀ (l : List α), (∀ i, i < l.length → p i = q (l.getD i d)) → anyI p l.length = l.any q := by
  intro l h
  cases hq : l.any q with
  | true =>
    obtain ⟨x, hx, hqx⟩ := List.any_eq_true.1 hq
    obtain ⟨i, hi, rfl⟩ := List.mem_iff_getElem.1 hx
    exact anyI_some hi (by rw [h i hi]; simpa [List.getD, hi] using hqx)
  | false =>
    refine anyI_none (fun j hj => ?_)
    rw [h j hj]
    have := List.any_eq_false.1 hq (l.getD j d) (by simp [List.getD, hj])
    simpa using this
set_option maxHeartbeats 4000000 in
theorem idxInt (p : Nat → Bool) (V : Nat → Value) (g : Nat) (lb : Array Value) (eg : ∀ args w, (callFunc g args).run Try.prog w = .ok (.enter g args) w) (A : Option Addr) (n c : Nat) (w : World) (hn : n ≤ 9223372036854775807)
    (hc : 0 < n → ∃ ad, A = some ad ∧ ∀ i, i < n → w.cell? (ad.add i) = some (V i))
    (hp : ∀ i, i < n → ∀ W, Below w.heap.size w W → Calls Try.prog g (#[V i] ++ lb) W fun e W' => e = .returned (.bool (p i)) ∧ Below W.heap.size W W') :
    Calls Try.prog 113 #[.slice A n c, .func (.func g) #[] lb] w fun e w' => (∃ r : Int, e = .returned (.int .i64 r) ∧ decide (0 ≤ r) = anyI p n) ∧ Below w.heap.size w w' := by
  have HP := Aside0.mk hp
  have HC := Aside0.mk hc
  clear hp hc
  go_enter Try.func113, Try.ntmps113
  go_wp2
  go_loopg [5, 8] n (fun gg _ s8 wr => ∃ kk : Nat, kk ≤ n ∧ n - kk ≤ gg ∧ s8 = .int .i64 kk ∧ Aside0 (Below w.heap.size w wr) ∧ Aside0 (∀ j, j < kk → p j = false))
  case atStart => exact ⟨0, Nat.zero_le _, by omega, rfl, ⟨Below.refl _ _⟩, ⟨fun j hj => absurd hj (Nat.not_lt_zero _)⟩⟩
  case round =>
    obtain ⟨kk, hkk, hg, rfl, HB, HN⟩ := hrel
    by_cases hlt : kk < n
    · have hltz : (kk : Int) < (n : Int) := by omega
      obtain ⟨ad, ea, hcell0⟩ := HC.out (by omega)
      have hcell := (HB.out.cell (World.block_lt_of_cell? w _ (hcell0 kk hlt))).trans (hcell0 kk hlt)
      clear hcell0
      cases ea
      have hcall := HP.out kk hlt _ HB.out
      cases hq : p kk with
      | true =>
        rw [hq] at hcall
        have HQ := Aside0.mk hq
        clear hq
        go_wp2_with (go_at_fn g; refine hcall.mono ?_; rintro e w' ⟨rfl, hb⟩)
        go_ret
        refine ⟨⟨kk, rfl, ?_⟩, HB.out.trans (hb.mono HB.out.size)⟩
        rw [anyI_some hlt HQ.out, decide_eq_true (by omega)]
      | false =>
        rw [hq] at hcall
        have HQ := Aside0.mk hq
        clear hq
        go_wp2_with (go_at_fn g; refine hcall.mono ?_; rintro e w' ⟨rfl, hb⟩)
        go_roundg (n - (kk + 1))
        case measure => omega
        case rel =>
          refine ⟨kk + 1, by omega, by omega, by go_num, ⟨HB.out.trans (hb.mono HB.out.size)⟩, ⟨fun j hj => ?_⟩⟩
          by_cases e : j = kk
          · subst e
            exact HQ.out
          · exact HN.out j (by omega)
    · have hltz : ¬ (kk : Int) < (n : Int) := by omega
      have : kk = n := by omega
      subst this
      go_wp2
      go_ret
      refine ⟨⟨-1, rfl, ?_⟩, HB.out⟩
      rw [anyI_none HN.out]
      rfl
set_option maxHeartbeats 4000000 in
theorem anyInt (p : Nat → Bool) (V : Nat → Value) (g : Nat) (lb : Array Value) (eg : ∀ args w, (callFunc g args).run Try.prog w = .ok (.enter g args) w) (A : Option Addr) (n c : Nat) (w : World) (hn : n ≤ 9223372036854775807)
    (hc : 0 < n → ∃ ad, A = some ad ∧ ∀ i, i < n → w.cell? (ad.add i) = some (V i))
    (hp : ∀ i, i < n → ∀ W, Below w.heap.size w W → Calls Try.prog g (#[V i] ++ lb) W fun e W' => e = .returned (.bool (p i)) ∧ Below W.heap.size W W') :
    Calls Try.prog 93 #[.slice A n c, .func (.func g) #[] lb] w fun e w' => e = .returned (.bool (anyI p n)) ∧ Below w.heap.size w w' := by
  have hcall := idxInt p V g lb eg A n c w hn hc hp
  clear hp hc
  go_enter Try.func93, Try.ntmps93
  go_wp2_with (go_at_call 113; refine hcall.mono ?_; rintro e w' ⟨⟨r, rfl, hr⟩, hb⟩)
  go_ret
  exact ⟨by first | (rw [← hr]; rfl) | (rw [← hr]; simp), hb⟩

/-- over a row of numbers that is read -/
theorem anyIntL (q : Int → Bool) (g : Nat) (lb : Array Value) (eg : ∀ args w, (callFunc g args).run Try.prog w = .ok (.enter g args) w) (A : Option Addr) (l : List Int) (c : Nat) (w : World) (hr : Kd.C (Kd.int .i64) w A l.length l)
    (hp : ∀ x W, Below w.heap.size w W → Calls Try.prog g (#[.int .i64 x] ++ lb) W fun e W' => e = .returned (.bool (q x)) ∧ Below W.heap.size W W') :
    Calls Try.prog 93 #[.slice A l.length c, .func (.func g) #[] lb] w fun e w' => e = .returned (.bool (l.any q)) ∧ Below w.heap.size w w' := by
  have h := anyInt (fun i => q (l.getD i 0)) (fun i => .int .i64 (l.getD i 0)) g lb eg A l.length c w hr.2.1
    (fun hn => by
      obtain ⟨ad, ea, _⟩ := hr.2.2 hn
      refine ⟨ad, ea, fun i hi => ?_⟩
      obtain ⟨ad', ea', hx⟩ := Kd.at_int hr (i : Int) (by omega) (by omega)
      cases ea
      cases ea'
      exact hx)
    (fun i hi W hb => hp _ W hb)
  rwa [anyI_list q 0 _ l (fun i _ => rfl)] at h

/-- over a row of numbers that is read, its members alone -/
theorem anyIntL' (q : Int → Bool) (g : Nat) (lb : Array Value) (eg : ∀ args w, (callFunc g args).run Try.prog w = .ok (.enter g args) w) (A : Option Addr) (l : List Int) (c : Nat) (w : World) (hr : Kd.C (Kd.int .i64) w A l.length l)
    (hp : ∀ x, x ∈ l → ∀ W, Below w.heap.size w W → Calls Try.prog g (#[.int .i64 x] ++ lb) W fun e W' => e = .returned (.bool (q x)) ∧ Below W.heap.size W W') :
    Calls Try.prog 93 #[.slice A l.length c, .func (.func g) #[] lb] w fun e w' => e = .returned (.bool (l.any q)) ∧ Below w.heap.size w w' := by
  have h := anyInt (fun i => q (l.getD i 0)) (fun i => .int .i64 (l.getD i 0)) g lb eg A l.length c w hr.2.1
    (fun hn => by
      obtain ⟨ad, ea, _⟩ := hr.2.2 hn
      refine ⟨ad, ea, fun i hi => ?_⟩
      obtain ⟨ad', ea', hx⟩ := Kd.at_int hr (i : Int) (by omega) (by omega)
      cases ea
      cases ea'
      exact hx)
    (fun i hi W hb => hp _ (by simp [List.getD, hi]) W hb)
  rwa [anyI_list q 0 _ l (fun i _ => rfl)] at h

end Go.Proofs.Ytdmeonkkbihbhaa.PFnExactWordValue
