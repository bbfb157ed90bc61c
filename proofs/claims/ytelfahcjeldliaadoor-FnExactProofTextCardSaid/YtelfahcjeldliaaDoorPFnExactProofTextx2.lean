/- WRITTEN BY A PROGRAM OF THIS SESSION (wip/xprint) OVER THE KIT's PRINT, FOR THIS CLAIM: for Go functions that the law reaches, one Lean function each and the proof that Go's call comes to its answer. No conditions but those that each theorem names. -/
import Derived.Test.YtelfahcjeldliaaDoorPFnExactProofTextx0
import Derived.Test.YtelfahcjeldliaaDoorPFnExactProofTextx1
namespace Go.Proofs.YtelfahcjeldliaaDoor.PFnExactProofText
open Go.RowKit Go.Proofs.YtelfahcjeldliaaDoorW.PrintWords Go.Proofs.YtelfahcjeldliaaDoorW.PrintLast Go.Proofs.YtelfahcjeldliaaDoorW.PrintMore
attribute [local go_sem] max2_int min2_int max_two min_two max_three min_three max_four min_four   -- for this text's walks alone
set_option linter.unusedVariables false
set_option linter.unusedSimpArgs false

/-! ### strconv_Itoa: function 21 -/
/-! ### strings.Builder, written by the call that made it; numerals -/
theorem neB5 : (46 : TypeId) ≠ 5 := by decide
theorem size46 : (Tryd.prog.info? 46).map (·.size) = some 2 := by kernel_rfl
theorem lies46 : liesAt Tryd.prog Tryd.prog.depth 46 (2 / Tryd.prog.cellsOf 46) 0 46 1 = true := by kernel_rfl
set_option maxHeartbeats 1000000 in
set_option maxRecDepth 100000 in
theorem copy_used (b : Nat) (w : World) (h : w.cell? ⟨b, 0, none⟩ = some (.pointer (some ⟨b, 0, none⟩))) :
    Calls Tryd.prog 40 #[.pointer (some ⟨b, 0, none⟩)] w fun e w' => e = .returned (.tuple #[]) ∧ w' = w := by
  obtain ⟨j, hj, _⟩ := Option.map_eq_some_iff.1 size46
  have hn : ∀ W, (binOp .neq 43 (.pointer (some ⟨b, 0, none⟩)) (.pointer (some ⟨b, 0, none⟩))).run Tryd.prog W = .ok (.bool false) W := fun W => Lib.run_neq_ptr_same W _ Tryd.underlying43 hj
  go_enter Tryd.func40, Tryd.ntmps40
  go_wp2
  go_end0
  exact ⟨rfl, rfl⟩
set_option maxHeartbeats 1000000 in
set_option maxRecDepth 100000 in
theorem copy_fresh (b : Nat) (w : World) (h : w.cell? ⟨b, 0, none⟩ = some (.pointer none)) (hs : w.shape? b = some (46, 2)) (hf : w.frozen? ⟨b, 0, none⟩ = false) :
    Calls Tryd.prog 40 #[.pointer (some ⟨b, 0, none⟩)] w fun e w' => e = .returned (.tuple #[]) ∧ w' = w.setCell ⟨b, 0, none⟩ (.pointer (some ⟨b, 0, none⟩)) := by
  obtain ⟨j, hj, hz⟩ := Option.map_eq_some_iff.1 size46
  have h1 : (convert 43 78 (.pointer (some ⟨b, 0, none⟩))).run Tryd.prog w = .ok (.pointer (some ⟨b, 0, none⟩)) w := Lib.run_to_unsafe w _ Tryd.underlying43 Tryd.underlying78 hj (by rw [hz]; decide) hs (show 0 < 2 by decide)
  have h2 : (convert 78 43 (.pointer (some ⟨b, 0, none⟩))).run Tryd.prog w = .ok (.pointer (some ⟨b, 0, none⟩)) w := Lib.run_from_unsafe w _ Tryd.underlying78 Tryd.underlying43 hj hs lies46
  go_enter Tryd.func40, Tryd.ntmps40
  go_wp2
  rw [run_callFunc_extern Tryd.func49 (by kernel_rfl) (by kernel_rfl) (by kernel_rfl) (e := Extern.AbiNoEscape.same) (by kernel_rfl)]
  rw [Lib.run_noEscape]
  simp only [Result.andThen]
  rw [Oper.upon_value]
  go_wp2
  go_end0
  exact ⟨rfl, rfl⟩
theorem copyCheck (B b : Nat) (bs : List Value) (w : World) (h : Lib.IsBuilder 46 5 B b bs w) :
    Calls Tryd.prog 40 #[.pointer (some ⟨b, 0, none⟩)] w fun e w' => e = .returned (.tuple #[]) ∧ Lib.BuilderAt 46 5 B b (.pointer (some ⟨b, 0, none⟩)) bs w' ∧ Below B w w' ∧ Lib.OthersKept 5 (some b) w w' := by
  rcases h with h | h
  · refine (copy_fresh b w h.cell0 h.shape h.frozen0).mono ?_
    rintro e w' ⟨rfl, rfl⟩
    exact ⟨rfl, h.used _, (Below.refl B w).setCell (p := ⟨b, 0, none⟩) h.1 _, (Lib.OthersKept.refl 5 (some b) w).setCell ⟨b, 0, none⟩ rfl _⟩
  · refine (copy_used b w h.cell0).mono ?_
    rintro e w' ⟨rfl, rfl⟩
    exact ⟨rfl, h, Below.refl B _, Lib.OthersKept.refl 5 (some b) w'⟩
theorem own_kind {w : World} {B : Nat} {e : TypeId} {v : Value} {n : Nat} {xs : List Value} (h : w.ownsRow B e 1 v n xs) : ∀ g, v.ownBlock = some g → ∃ c fz, w.heap[g]? = some (.cells c e fz) := by
  intro g hg
  rcases h.2 with ⟨rfl, _⟩ | ⟨g2, cap, cur, rfl, _, hk, _⟩
  · cases hg
  · obtain rfl : g2 = g := Option.some.inj hg
    exact ⟨_, _, hk⟩
set_option maxHeartbeats 2000000 in
set_option maxRecDepth 100000 in
theorem writeStrK (B b : Nat) (bs : List Value) (s : ByteArray) (w : World) (h : Lib.IsBuilder 46 5 B b bs w) (hlen : bs.length + s.size ≤ 140737488355328) (hBw : B ≤ w.heap.size) :
    Calls Tryd.prog 20 #[.pointer (some ⟨b, 0, none⟩), .string s] w fun e w' => e = .returned (.tuple #[.int .i64 s.size, .nilIface]) ∧ Lib.BuilderAt 46 5 B b (.pointer (some ⟨b, 0, none⟩)) (bs ++ Lib.strCells s) w' ∧ Below B w w' ∧ Lib.OthersKept 5 (some b) w w' := by
  obtain ⟨i0, hi, hzz⟩ := Option.map_eq_some_iff.1 info5
  simp only [Prod.mk.injEq] at hzz
  obtain ⟨hz0, hz1, hz2⟩ := hzz
  have hc := fun W H => copyCheck B b bs W H
  go_enter Tryd.func20, Tryd.ntmps20
  go_wp2_with (go_at_call 40; refine (hc _ h).mono ?_)
  rintro e w1 ⟨rfl, h1, hb1, hk1⟩
  obtain ⟨hB, v, hbk, hown, hne⟩ := h1
  have c0 : w1.cell? ⟨b, 0, none⟩ = some (.pointer (some ⟨b, 0, none⟩)) := by rw [Lib.cell_of_heap hbk]; rfl
  have c1 : w1.cell? ⟨b, 1, none⟩ = some v := by rw [Lib.cell_of_heap hbk]; rfl
  go_wp2_with (at_builtin; refine Lib.wpList_append_own_string _ rfl _ _ 44 9 rfl B 5 i0 Tryd.underlying44 Tryd.underlying9 hi hz0 hz1 hz2 _ _ _ rfl hown s rfl ?c3 ?c4 ?c5 ?_)
  case c3 => unfold maxLen; omega
  case c4 => omega
  case c5 => have := hb1.size; omega
  intro v' w2 hown' hgrow _
  have hlt : b < w1.heap.size := by
    rcases Nat.lt_or_ge b w1.heap.size with h' | h'
    · exact h'
    · simp [Array.getElem?_eq_none h'] at hbk
  have hb2 : w2.heap[b]? = some (.cells #[.pointer (some ⟨b, 0, none⟩), v] 46 (0, 0)) := by
    rw [hgrow.block b hlt (fun e => hne e.symm)]
    exact hbk
  have d0 : w2.cell? ⟨b, 0, none⟩ = some (.pointer (some ⟨b, 0, none⟩)) := by rw [Lib.cell_of_heap hb2]; rfl
  have d1 : w2.cell? ⟨b, 1, none⟩ = some v := by rw [Lib.cell_of_heap hb2]; rfl
  have f1 : w2.frozen? ⟨b, 1, none⟩ = false := Lib.frozen_of_heap hb2 1
  obtain ⟨ao, n', cap, rfl⟩ : ∃ ao n' cap, v' = .slice ao n' cap := by
    rcases hown'.2 with ⟨hv, _⟩ | ⟨g, cap, cur, hv, _⟩
    · exact ⟨_, _, _, hv⟩
    · exact ⟨_, _, _, hv⟩
  go_wp2
  go_ret2
  refine ⟨rfl, ?_, ?_, (hk1.grown hgrow (own_kind hown)).setCell ⟨b, 1, none⟩ rfl _⟩
  · exact Lib.BuilderAt.put (T := 46) (e := 5) hB hb2 (bs' := bs ++ Lib.strCells s) (by simpa [Lib.strCells_length] using hown') neB5
  · exact (hb1.grown hgrow (by have := hb1.size; omega) (fun k hk => (hown.lt k hk).1)).setCell (p := ⟨b, 1, none⟩) hB _
theorem writeStr (B b : Nat) (bs : List Value) (s : ByteArray) (w : World) (h : Lib.IsBuilder 46 5 B b bs w) (hlen : bs.length + s.size ≤ 140737488355328) (hBw : B ≤ w.heap.size) :
    Calls Tryd.prog 20 #[.pointer (some ⟨b, 0, none⟩), .string s] w fun e w' => e = .returned (.tuple #[.int .i64 s.size, .nilIface]) ∧ Lib.BuilderAt 46 5 B b (.pointer (some ⟨b, 0, none⟩)) (bs ++ Lib.strCells s) w' ∧ Below B w w' :=
  (writeStrK B b bs s w h hlen hBw).mono (fun e w' h => ⟨h.1, h.2.1, h.2.2.1⟩)
/-- a builder lies on when memory is made -/
theorem build_below {B b : Nat} {bs : List Value} {w w' : World} (h : Lib.IsBuilder 46 5 B b bs w) (hb : Below w.heap.size w w') : Lib.IsBuilder 46 5 B b bs w' := by
  have key : ∀ p, Lib.BuilderAt 46 5 B b p bs w → Lib.BuilderAt 46 5 B b p bs w' := by
    rintro p ⟨hB, v, hbk, hown, hne⟩
    have lt : ∀ (k : Nat) o, w.heap[k]? = some o → w'.heap[k]? = some o := by
      intro k o hk
      have : k < w.heap.size := by
        rcases Nat.lt_or_ge k w.heap.size with h' | h'
        · exact h'
        · simp [Array.getElem?_eq_none h'] at hk
      rw [hb.block k this]
      exact hk
    refine ⟨hB, v, lt b _ hbk, ⟨hown.1, ?_⟩, hne⟩
    rcases hown.2 with h1 | ⟨g, cap, cur, hv, hg, hgk, r⟩
    · exact .inl h1
    · exact .inr ⟨g, cap, cur, hv, hg, lt g _ hgk, r⟩
  exact h.imp (key _) (key _)
/-- the table of powers -/
def Tab (w : World) : Prop := Lib.TabIs Tryd.prog w "internal/strconv.uint64pow10" .u64 Lib.pow10Tab
theorem itoa_calls (n : Int) (w : World) (hT : Tab w) (h0 : -9223372036854775808 ≤ n) (h1 : n ≤ 9223372036854775807) :
    Calls Tryd.prog 21 #[.int .i64 n] w fun e w' => e = .returned (.string ⟨(Lib.itoa n).toArray⟩) ∧ Below w.heap.size w w' :=
  (Tryd.strconv_Itoa n h0 h1 w hT).mono (fun e w' h => ⟨h.1, by obtain ⟨k, os, rfl⟩ := h.2; exact Lib.below_grow _ _ (Nat.le_refl _) _ _⟩)
theorem tab_below {w w' : World} (h : Tab w) (hb : Below w.heap.size w w') : Tab w' := by
  unfold Tab Lib.TabIs World.var? at *
  cases hg : Tryd.prog.globalNamed "internal/strconv.uint64pow10" with
  | none => rw [hg] at h; cases h
  | some g =>
    rw [hg] at h
    simp only [Option.bind_some] at h ⊢
    have hlt : g < w.heap.size := by
      rcases Nat.lt_or_ge g w.heap.size with q | q
      · exact q
      · rw [Array.getElem?_eq_none q] at h; cases h
    rw [hb.block g hlt]
    exact h
/-! ### the texts -/
def litT (x : Int) : List UInt8 := Lib.itoa x ++ [32]
def clauseT (c : List Int) : List UInt8 := c.flatMap litT ++ [48, 10]
def bodyT (cs : List (List Int)) : List UInt8 := cs.flatMap clauseT
def headT (v n : Int) : List UInt8 := [112, 32, 99, 110, 102, 32] ++ Lib.itoa v ++ [32] ++ Lib.itoa n ++ [10]
def textT (v : Int) (cs : List (List Int)) : List UInt8 := headT v cs.length ++ bodyT cs
/-- what every number of a text keeps within -/
def smallI (n : Int) : Prop := -1000000 < n ∧ n < 1000000
theorem itoa_le {n : Int} (h : smallI n) : (Lib.itoa n).length ≤ 21 := Lib.itoa_length_le n (by have := h.1; omega) (by have := h.2; omega)
theorem litT_le {n : Int} (h : smallI n) : (litT n).length ≤ 22 := by
  have := itoa_le h
  simp only [litT, List.length_append, List.length_cons, List.length_nil]
  omega
theorem flat_le {α β : Type} (f : α → List β) (b : Nat) : ∀ (l : List α), (∀ x ∈ l, (f x).length ≤ b) → (l.flatMap f).length ≤ b * l.length
  | [], _ => by simp
  | x :: r, h => by
    have h1 := h x List.mem_cons_self
    have h2 := flat_le f b r (fun y hy => h y (List.mem_cons_of_mem _ hy))
    simp only [List.flatMap_cons, List.length_append, List.length_cons, Nat.mul_add, Nat.mul_one]
    omega
theorem clauseT_le {c : List Int} (h : ∀ x ∈ c, smallI x) : (clauseT c).length ≤ 22 * c.length + 2 := by
  have := flat_le litT 22 c (fun x hx => litT_le (h x hx))
  simp only [clauseT, List.length_append, List.length_cons, List.length_nil]
  omega
theorem flat_take_len {α β : Type} (f : α → List β) (l : List α) (i : Nat) : ((l.take i).flatMap f).length ≤ (l.flatMap f).length := by
  conv => rhs; rw [← List.take_append_drop i l, List.flatMap_append, List.length_append]
  exact Nat.le_add_right _ _
theorem flat_snoc {α β : Type} (f : α → List β) (l : List α) (i : Nat) (x : α) (h : l[i]? = some x) : (l.take (i + 1)).flatMap f = (l.take i).flatMap f ++ f x := by
  have hi : i < l.length := (List.getElem?_eq_some_iff.1 h).1
  have hx : l[i] = x := (List.getElem?_eq_some_iff.1 h).2
  rw [List.take_succ_eq_append_getElem hi, List.flatMap_append, hx]
  simp
/-- a string of bytes -/
def sB (l : List UInt8) : ByteArray := ⟨l.toArray⟩
theorem sB_size (l : List UInt8) : (sB l).size = l.length := by simp [sB, ByteArray.size]
theorem sB_add (a b : List UInt8) : sB a ++ sB b = sB (a ++ b) := by
  apply ByteArray.ext
  simp [sB, ByteArray.data_append]
theorem sB_cells (l : List UInt8) : Lib.strCells (sB l) = Lib.byteCells l := rfl
theorem wr64 {x : Int} (h0 : -9223372036854775808 ≤ x) (h1 : x ≤ 9223372036854775807) : wrap64 x = x := IntWalk.wrap64_in x ⟨h0, h1⟩
theorem one_byte (m : Nat) : strOfNums [((m : Nat) : Int)] = sB [UInt8.ofNat m] := by
  unfold strOfNums sB
  simp only [List.map_cons, List.map_nil, Int.toNat_natCast]
/-- the reference's digits are the library's -/
theorem dig_nat : ∀ (k : Nat) (n : Nat), n < 10 ^ (k + 1) → k ≤ 16 → spec_l00Digits.f (k + 1) (n : Int) = some (sB (Lib.decDigits n))
  | k, n, h, hk => by
    have hp : n < 10 ^ 17 := Nat.lt_of_lt_of_le h (Nat.pow_le_pow_right (by decide) (by omega))
    have hp2 : (10 : Nat) ^ 17 = 100000000000000000 := by decide
    rw [hp2] at hp
    rw [spec_l00Digits.f, if_neg (by omega), if_neg (by omega)]
    by_cases hs : n < 10
    · rw [if_pos (by omega), Lib.decDigits_one hs]
      have e1 : wrap64 (48 + (n : Int)) % 256 = ((48 + n : Nat) : Int) := by
        have : wrap64 (48 + (n : Int)) = 48 + (n : Int) := wr64 (by omega) (by omega)
        rw [this]
        omega
      rw [e1]
      rw [one_byte]
    · rw [if_neg (by omega)]
      cases k with
      | zero => exact absurd h (by omega)
      | succ k =>
        have e2 : wrap64 (Int.tdiv (n : Int) 10) = ((n / 10 : Nat) : Int) := by
          rw [show Int.tdiv (n : Int) 10 = ((n / 10 : Nat) : Int) by rw [Int.tdiv_eq_ediv_of_nonneg (by omega)]; omega]
          exact wr64 (by omega) (by omega)
        have e3 : wrap64 (48 + Int.tmod (n : Int) 10) % 256 = ((48 + n % 10 : Nat) : Int) := by
          rw [show Int.tmod (n : Int) 10 = ((n % 10 : Nat) : Int) by rw [Int.tmod_eq_emod_of_nonneg (by omega)]; omega]
          have : wrap64 (48 + ((n % 10 : Nat) : Int)) = 48 + ((n % 10 : Nat) : Int) := wr64 (by omega) (by omega)
          rw [this]
          omega
        have ih := dig_nat k (n / 10) (by rw [Nat.pow_succ] at h; omega) (by omega)
        have hl := Lib.itoa_length_le ((n / 10 : Nat) : Int) (by omega) (by omega)
        rw [Lib.itoa_nonneg] at hl
        rw [e2, ih, e3]
        simp only [Option.bind_some]
        have hz := one_byte (48 + n % 10)
        rw [hz, if_pos (by rw [sB_size, sB_size]; simp only [List.length_cons, List.length_nil]; omega), sB_add]
        conv => rhs; rw [Lib.decDigits, dif_neg hs]
theorem dig_int (n : Int) (h : smallI n) : spec_l00Digits.f 8 n = some (sB (Lib.itoa n)) := by
  obtain ⟨h0, h1⟩ := h
  by_cases hn : n < 0
  · obtain ⟨m, rfl⟩ : ∃ m : Nat, n = -(m : Int) := ⟨n.natAbs, by omega⟩
    have e1 : wrap64 (-(-(m : Int))) = (m : Int) := by rw [Int.neg_neg]; exact wr64 (by omega) (by omega)
    have hd := dig_nat 6 m (by have : (10 : Nat) ^ (6 + 1) = 10000000 := by decide
                               omega) (by decide)
    have hl := Lib.itoa_length_le (m : Int) (by omega) (by omega)
    rw [Lib.itoa_nonneg] at hl
    rw [spec_l00Digits.f, if_neg (by omega), if_pos hn, e1, hd, Lib.itoa_neg m (by omega)]
    simp only [Option.bind_some]
    rw [if_pos (by rw [sB_size]; omega), show (⟨#[45]⟩ : ByteArray) = sB [45] from rfl, sB_add]
    rfl
  · obtain ⟨m, rfl⟩ : ∃ m : Nat, n = (m : Int) := ⟨n.toNat, by omega⟩
    rw [Lib.itoa_nonneg]
    exact dig_nat 7 m (by have : (10 : Nat) ^ (7 + 1) = 100000000 := by decide
                          omega) (by decide)
theorem digits_calls (n : Int) (w : World) (h : smallI n) : Calls Tryd.prog 34 #[.int .i64 n] w fun e w' => e = .returned (.string (sB (Lib.itoa n))) ∧ Below w.heap.size w w' :=
  spec_l00Digits.calls 8 n _ w (dig_int n h)
/-! ### a row of bytes that the call owns, made by a conversion too (its mark lies behind its cells) -/
section
variable {P : Program}
theorem store_apart (P : Program) (g o : Nat) (t : TypeId) (fz : Nat × Nat) : ∀ (vs : List Value) (i : Nat) (cur : Array Value) (w : World),
    w.heap[g]? = some (.cells cur t fz) → (fz.2 ≤ o ∨ cur.size ≤ fz.1) → o + i + vs.length ≤ cur.size → (∀ v ∈ vs, v.oneCell' = true) →
    (storeCells ⟨g, o, none⟩ vs i).run P w = .ok () (w.setRow g (cur.toList.take (o + i) ++ vs ++ cur.toList.drop (o + i + vs.length)).toArray)
  | [], i, cur, w, hg, _, _, _ => by
    simp only [storeCells, List.append_nil, List.length_nil, Nat.add_zero, List.take_append_drop, Array.toArray_toList]
    rw [setRow_self w g cur t fz hg]
    rfl
  | v :: rest, i, cur, w, hg, hfz, hl, h1 => by
    have hi : o + i < cur.size := by simp at hl; omega
    have hadd : (⟨g, o, none⟩ : Addr).add i = ⟨g, o + i, none⟩ := by unfold Addr.add; split <;> simp_all
    have hcell : w.cell? ⟨g, o + i, none⟩ = some cur[o + i] := by simp [World.cell?, hg, hi]
    have hfro : w.frozen? ⟨g, o + i, none⟩ = false := by
      obtain ⟨lo, hi'⟩ := fz
      simp only [World.frozen?, hg, Bool.and_eq_false_iff, decide_eq_false_iff_not]
      simp only at hfz
      rcases hfz with hfz | hfz
      · right; omega
      · left; omega
    have hst : (store ((⟨g, o, none⟩ : Addr).add i) v).run P w = .ok () (w.setRow g (cur.setIfInBounds (o + i) v)) := by
      rw [hadd, run_store P w _ v _ (h1 v (by simp)), hcell]
      simp [hfro, setCell_eq_setRow w g (o + i) cur t fz v hg]
    have ih := store_apart P g o t fz rest (i + 1) (cur.setIfInBounds (o + i) v) (w.setRow g (cur.setIfInBounds (o + i) v)) (setRow_heap w g cur _ t _ hg) (by simpa using hfz) (by simp at hl ⊢; omega) (fun x hx => h1 x (by simp [hx]))
    simp only [storeCells, Sem.run_bind, hst, Result.andThen_ok, ih, setRow_setRow]
    congr 3
    have e := list_seg_step cur.toList (o + i) v rest (by simp at hl ⊢; omega)
    simpa [Array.toList_setIfInBounds, Nat.add_assoc] using e
/-- v is a slice over the call's own row, and holds the bytes l -/
def Own (w : World) (base : Nat) (v : Value) (l : List UInt8) : Prop :=
  ∃ g cap cur fz, v = .slice (some ⟨g, 0, none⟩) l.length cap ∧ base ≤ g ∧ w.heap[g]? = some (.cells cur 5 fz) ∧ (fz.2 ≤ l.length ∨ cur.size ≤ fz.1) ∧ l.length ≤ cap ∧ cap ≤ maxLen ∧ cur.size = cap ∧ cur.toList.take l.length = Lib.byteCells l
theorem Own.below {w w' : World} {base : Nat} {v : Value} {l : List UInt8} (h : Own w base v l) (hb : Below w.heap.size w w') : Own w' base v l := by
  obtain ⟨g, cap, cur, fz, hv, hg, hk, r⟩ := h
  have hlt : g < w.heap.size := by
    rcases Nat.lt_or_ge g w.heap.size with q | q
    · exact q
    · rw [Array.getElem?_eq_none q] at hk; cases hk
  exact ⟨g, cap, cur, fz, hv, hg, by rw [hb.block g hlt]; exact hk, r⟩
theorem Own.cell {w : World} {base : Nat} {v : Value} {l : List UInt8} (h : Own w base v l) : ∃ g cap, v = .slice (some ⟨g, 0, none⟩) l.length cap ∧ ∀ j u, (Lib.byteCells l)[j]? = some u → w.cell? ((⟨g, 0, none⟩ : Addr).add j) = some u := by
  obtain ⟨g, cap, cur, fz, hv, hg, hk, hz, h1, h2, h3, ht⟩ := h
  refine ⟨g, cap, hv, fun j u hj => ?_⟩
  have hadd : (⟨g, 0, none⟩ : Addr).add j = ⟨g, j, none⟩ := by unfold Addr.add; split <;> simp_all
  rw [hadd]
  rw [← ht] at hj
  have hjl : j < l.length := by
    rcases Nat.lt_or_ge j l.length with q | q
    · exact q
    · rw [List.getElem?_eq_none (by simp; omega)] at hj; cases hj
  rw [List.getElem?_take_of_lt hjl] at hj
  simp only [World.cell?, hk]
  simpa using hj
set_option maxHeartbeats 1000000 in
/-- append(v, s...) -/
theorem Own.append {w : World} {base : Nat} {v : Value} {l : List UInt8} (hown : Own w base v l) (t u ty : TypeId) (ht : Tryd.prog.underlying t = some (.slice 5)) (hu : Tryd.prog.underlying u = some .string) (s : List UInt8)
    (hl : l.length + s.length ≤ 140737488355328) (hbase : base ≤ w.heap.size) :
    ∃ v' w', (Builtin.append_ #[t, u] ty #[v, .string (sB s)]).run Tryd.prog w = .ok v' w' ∧ Own w' base v' (l ++ s) ∧ Below base w w' := by
  obtain ⟨i0, hi, hzz⟩ := Option.map_eq_some_iff.1 info5
  simp only [Prod.mk.injEq] at hzz
  obtain ⟨hz, hsize, hby⟩ := hzz
  have hs : (sB s).size = s.length := sB_size s
  have hcl : (Lib.byteCells s).length = s.length := Lib.byteCells_length s
  have holds := hown.cell
  obtain ⟨g, cap, cur, fz, rfl, hbg, hg, hfz, hnc, hcm, hcs, htake⟩ := hown
  obtain ⟨g2, cap2, hv2, holds⟩ := holds
  cases hv2
  by_cases hroom : l.length + s.length ≤ cap
  · have hf := Lib.run_firstCells_string (P := Tryd.prog) w 1 (sB s)
    have hst := store_apart Tryd.prog g l.length 5 fz (Lib.byteCells s) 0 cur w hg hfz (by rw [hcl]; omega) (Lib.strCells_oneCell (sB s))
    simp only [Nat.add_zero, hcl] at hst
    have hr : (Builtin.append_ #[t, u] ty #[.slice (some ⟨g, 0, none⟩) l.length cap, .string (sB s)]).run Tryd.prog w =
        .ok (.slice (some ⟨g, 0, none⟩) (l.length + s.length) cap) (w.setRow g (cur.toList.take l.length ++ Lib.byteCells s ++ cur.toList.drop (l.length + s.length)).toArray) := by
      rw [hs, sB_cells] at hf
      simp [Builtin.append_, run_underlying ht, run_underlying hu, sizeOf, typeInfo, hi, hsize, Builtin.lenOf, hroom, hf, hs, Addr.add_lit, hst]
    refine ⟨_, _, hr, ⟨g, cap, _, fz, by rw [List.length_append], hbg, setRow_heap w g cur _ 5 _ hg, ?_, by rw [List.length_append]; exact hroom, hcm, ?_, ?_⟩, ?_⟩
    · rcases hfz with q | q
      · exact .inl (by rw [List.length_append]; omega)
      · refine .inr (Nat.le_trans ?_ q)
        simp only [List.size_toArray, List.length_append, List.length_take, List.length_drop, Array.length_toList, hcl]
        omega
    · simp only [List.size_toArray, List.length_append, List.length_take, List.length_drop, Array.length_toList, hcl]
      omega
    · rw [htake, Lib.byteCells_append]
      rw [show (l ++ s).length = (Lib.byteCells l ++ Lib.byteCells s).length by rw [List.length_append, List.length_append, Lib.byteCells_length, Lib.byteCells_length]]
      exact List.take_left
    · exact ⟨rfl, rfl, rfl, by simp, fun k hk => setRow_other w g k _ (by omega)⟩
  · have hr := Lib.run_append_grow_string (P := Tryd.prog) w t u ty 5 i0 (.int .u8 0) ht hu hi hz ⟨g, 0, none⟩ l.length cap (Lib.byteCells l) (by rw [hsize, Lib.byteCells_length, Nat.mul_one]) holds (sB s) (by rw [hs]; omega) (by rw [hs]; simp only [maxLen] at hcm ⊢; omega) (by rw [hby, hs]; exact growslice_fits (by omega) (by omega))
    rw [hs] at hr
    have hge := grownCap_ge w (l.length + s.length) cap 5
    have hcm2 : grownCap w (l.length + s.length) cap 5 ≤ maxLen := grownCap_le_maxLen w (l.length + s.length) cap 5 (by simp only [maxLen]; omega)
    refine ⟨_, _, hr, ⟨w.heap.size, _, _, (0, 0), by rw [List.length_append], hbase, heap_alloc_new w.drew _, .inl (Nat.zero_le _), by rw [List.length_append]; exact hge, hcm2, ?_, ?_⟩, ?_⟩
    · have hz1 : (Value.int IntKind.u8 0).cells.size = 1 := rfl
      simp only [Array.size_append, List.size_toArray, size_zeroCells, hz1, Lib.byteCells_length, sB_cells, Nat.mul_one]
      omega
    · rw [show (l ++ s).length = (Lib.byteCells l ++ Lib.byteCells s).length by rw [List.length_append, List.length_append, Lib.byteCells_length, Lib.byteCells_length]]
      simp only [Array.toList_append, Lib.byteCells_append, sB_cells, List.append_assoc]
      rw [← List.append_assoc]
      exact List.take_left
    · exact ⟨rfl, rfl, rfl, by simp, fun k hk => Lib.alloc_old w.drew _ k (show k < w.heap.size by omega)⟩
end
/-! ### A region that draws its order, shown for all orders at once: what an operation makes depends on what it waits for alone -/
section
variable {P : Program} {ops : Array Oper} {Q : Exit → Act → World → Prop}
/-- what is known of a value, and stays known when memory is made; B: the blocks of the region's own boxes -/
structure VP where
  p : (Nat → Prop) → World → Value → Prop
  move : ∀ B B' W W' v, Below W.heap.size W W' → (∀ k, B k → B' k) → (∀ k, B' k → B k ∨ W.heap.size ≤ k) → p B W v → p B' W' v
def VP.eq (u : Value) : VP := ⟨fun _ _ v => v = u, fun _ _ _ _ _ _ _ _ h => h⟩
def VP.any : VP := ⟨fun _ _ _ => True, fun _ _ _ _ _ _ _ _ h => h⟩
/-- some slots, filled -/
def fillA (vals : Nat → Value) : List (Option Tmp) → Act → Act
  | [], a => a
  | none :: r, a => fillA vals r a
  | some N :: r, a => fillA vals r (a.put (some N) (vals N))
theorem put_same {a : Act} {N : Tmp} {v : Value} (h : N < a.tmps.size) : (a.put (some N) v).eval (.tmp N) = v := by
  simp [Act.put, Act.eval, h]
theorem put_other {a : Act} {N M : Tmp} {v : Value} (h : M ≠ N) : (a.put (some N) v).eval (.tmp M) = a.eval (.tmp M) := by
  simp [Act.put, Act.eval, Array.getD_eq_getD_getElem?, Array.getElem?_setIfInBounds, Ne.symm h]
theorem put_size {a : Act} {N : Option Tmp} {v : Value} : (a.put N v).tmps.size = a.tmps.size := by
  cases N <;> simp [Act.put]
theorem put_defers {a : Act} {N : Option Tmp} {v : Value} : (a.put N v).defers = a.defers := by
  cases N <;> rfl
theorem fillA_size {vals : Nat → Value} : ∀ (ds : List (Option Tmp)) (a : Act), (fillA vals ds a).tmps.size = a.tmps.size
  | [], a => rfl
  | none :: r, a => fillA_size r a
  | some N :: r, a => (fillA_size r _).trans put_size
theorem fillA_defers {vals : Nat → Value} : ∀ (ds : List (Option Tmp)) (a : Act), (fillA vals ds a).defers = a.defers
  | [], a => rfl
  | none :: r, a => fillA_defers r a
  | some N :: r, a => (fillA_defers r _).trans put_defers
theorem fillA_other {vals : Nat → Value} {t : Tmp} : ∀ (ds : List (Option Tmp)) (a : Act), some t ∉ ds → (fillA vals ds a).eval (.tmp t) = a.eval (.tmp t)
  | [], a, _ => rfl
  | none :: r, a, h => fillA_other r a (fun q => h (List.mem_cons_of_mem _ q))
  | some N :: r, a, h => (fillA_other r _ (fun q => h (List.mem_cons_of_mem _ q))).trans (put_other (fun q => h (by rw [q]; exact List.mem_cons_self)))
theorem fillA_at {vals : Nat → Value} {t : Tmp} : ∀ (ds : List (Option Tmp)) (a : Act), some t ∈ ds → t < a.tmps.size → (fillA vals ds a).eval (.tmp t) = vals t
  | [], a, h, _ => by cases h
  | none :: r, a, h, hs => fillA_at r a (by rcases List.mem_cons.1 h with h | h; cases h; exact h) hs
  | some N :: r, a, h, hs => by
    by_cases hr : some t ∈ r
    · exact fillA_at r _ hr (by rw [put_size]; exact hs)
    · have : t = N := by
        rcases List.mem_cons.1 h with h | h
        · exact Option.some.inj h
        · exact absurd h hr
      subst this
      exact (fillA_other r _ hr).trans (put_same hs)
theorem fillA_o {vals : Nat → Value} {t : Tmp} {ds : List (Option Tmp)} {a : Act} {u : Value} (h : ds.contains (some t) = false) (hu : a.eval (.tmp t) = u) : (fillA vals ds a).eval (.tmp t) = u := (fillA_other ds a (fun hm => by rw [List.contains_iff_mem.2 hm] at h; cases h)).trans hu
theorem fillA_i {vals : Nat → Value} {t n : Nat} {ds : List (Option Tmp)} {a : Act} (h : ds.contains (some t) = true) (hn : a.tmps.size = n) (ht : Nat.blt t n = true) : (fillA vals ds a).eval (.tmp t) = vals t := fillA_at ds a (List.contains_iff_mem.1 h) (by rw [hn]; exact Nat.blt_eq ▸ ht)
theorem act_ext {a b : Act} (h1 : a.tmps.size = b.tmps.size) (h2 : a.defers = b.defers) (h3 : ∀ t, t < a.tmps.size → a.eval (.tmp t) = b.eval (.tmp t)) : a = b := by
  obtain ⟨x, d⟩ := a
  obtain ⟨y, e⟩ := b
  simp only at h1 h2
  subst h2
  congr 1
  refine Array.ext h1 (fun i hi hj => ?_)
  have := h3 i hi
  simpa [Act.eval, Array.getD_eq_getD_getElem?, hi, hj] using this
/-- each operation's slot is its own and lies in the frame; those from m on wait, each, for all ahead of them -/
def okL (L : List (Option Tmp)) (n m : Nat) (T : Bool × List (List Nat × List Nat)) (Bt : List Nat) : Bool :=
  decide (m < L.length) && (L.take m).all (fun N => match N with | some t => decide (t < n) | none => false) && decide (L.take m).Nodup && (waitsOk T.2 Bt && (List.range L.length).all (fun d => decide (d < m) || (List.range d).all (fun i => (Bt.getD d 0).testBit i))) && (List.range L.length).all (fun i => ((T.2.getD i ([], [])).1).all (fun j => decide (j < i)))
def Each (C : Nat → Oper → Prop) : Nat → Nat → List Oper → Prop
  | 0, _, _ => True
  | _, _, [] => True
  | f + 1, k, o :: r => C k o ∧ Each C f (k + 1) r
theorem Each.at {C : Nat → Oper → Prop} : ∀ (f k : Nat) (l : List Oper), Each C f k l → ∀ (i : Nat) (o : Oper), i < f → l[i]? = some o → C (k + i) o
  | 0, k, l, _, i, o, hi, _ => absurd hi (Nat.not_lt_zero _)
  | f + 1, k, [], _, i, o, _, h => by simp at h
  | f + 1, k, x :: r, h, 0, o, _, ho => by
    obtain rfl : x = o := by simpa using ho
    exact h.1
  | f + 1, k, x :: r, h, i + 1, o, hi, ho => by
    have := Each.at f (k + 1) r h.2 i o (by omega) (by simpa using ho)
    rwa [show k + 1 + i = k + (i + 1) by omega] at this
def StepOk (P : Program) (ops : Array Oper) (Q : Exit → Act → World → Prop) (a0 : Act) (w0 : World) (L : List (Option Tmp)) (T : Bool × List (List Nat × List Nat)) (V : List VP) (i : Nat) (o : Oper) : Prop :=
  ∀ (b : Act) (W : World) (B : Nat → Prop), Below w0.heap.size w0 W → (∀ k, B k → w0.heap.size ≤ k ∧ k < W.heap.size) → (∀ (t : Nat) (_ : L.contains (some t) = false := by kernel_rfl), b.eval (.tmp t) = a0.eval (.tmp t)) →
    (∀ (j t : Nat) (_ : ((T.2.getD i ([], [])).1).contains j = true := by kernel_rfl) (_ : L[j]? = some (some t) := by rfl), (V.getD j VP.any).p B W (b.eval (.tmp t))) →
    ∀ K : Act → World → Prop, (∀ v W', (V.getD i VP.any).p B W' v → Below W.heap.size W W' → K (b.put o.dst v) W') → (∀ v W', (V.getD i VP.any).p (fun k => B k ∨ k = W.heap.size) W' v → Below W.heap.size W W' → W.heap.size < W'.heap.size → K (b.put o.dst v) W') → if Region.wanted o (yielded ops b.tmps) = true then Oper.wp P o b W K Q else K (b.put o.dst undef) W
/-- what has been made so far -/
structure AInv (a0 : Act) (w0 : World) (L : List (Option Tmp)) (m : Nat) (V : List VP) (l : Nat → Bool) (B : Nat → Prop) (a : Act) (w : World) : Prop where
  size : a.tmps.size = a0.tmps.size
  defers : a.defers = a0.defers
  below : Below w0.heap.size w0 w
  boxes : ∀ k, B k → w0.heap.size ≤ k ∧ k < w.heap.size
  other : ∀ t, (∀ i, i < m → L[i]? = some (some t) → l i = false) → a.eval (.tmp t) = a0.eval (.tmp t)
  vals : ∀ i t, i < m → L[i]? = some (some t) → l i = true → (V.getD i VP.any).p B w (a.eval (.tmp t))
theorem nodup_get {L : List (Option Tmp)} (h : L.Nodup) {i j : Nat} {x : Option Tmp} (hi : L[i]? = some x) (hj : L[j]? = some x) : i = j := by
  have hi' := (List.getElem?_eq_some_iff.1 hi)
  have hj' := (List.getElem?_eq_some_iff.1 hj)
  obtain ⟨a1, e1⟩ := hi'
  obtain ⟨b1, e2⟩ := hj'
  rw [List.nodup_iff_pairwise_ne, List.pairwise_iff_getElem] at h
  rcases Nat.lt_trichotomy i j with q | q | q
  · exact absurd (e1.trans e2.symm) (h i j a1 b1 q)
  · exact q
  · exact absurd (e2.trans e1.symm) (h j i b1 a1 q)
theorem countP_lt {p q : Nat → Bool} : ∀ (L : List Nat), (∀ x ∈ L, q x = true → p x = true) → (∃ x ∈ L, p x = true ∧ q x = false) → L.countP q < L.countP p
  | [], _, h => by obtain ⟨x, hx, _⟩ := h; cases hx
  | y :: r, h1, h2 => by
    have hle : ∀ (M : List Nat), (∀ x ∈ M, q x = true → p x = true) → M.countP q ≤ M.countP p := fun M hM => List.countP_mono_left hM
    rw [List.countP_cons, List.countP_cons]
    obtain ⟨x, hx, hp, hq⟩ := h2
    rcases List.mem_cons.1 hx with rfl | hx
    · rw [hp, hq]
      have := hle r (fun x hx => h1 x (List.mem_cons_of_mem _ hx))
      simp
      omega
    · have := countP_lt r (fun x hx => h1 x (List.mem_cons_of_mem _ hx)) ⟨x, hx, hp, hq⟩
      have h3 : (if q y = true then 1 else 0) ≤ (if p y = true then 1 else 0) := by
        by_cases hy : q y = true
        · rw [if_pos hy, if_pos (h1 y List.mem_cons_self hy)]
          exact Nat.le_refl _
        · rw [if_neg hy]
          exact Nat.zero_le _
      omega
section
variable {a0 : Act} {w0 : World} {L : List (Option Tmp)} {n m : Nat} {V : List VP}
theorem AInv.start (a0 : Act) (w0 : World) (L : List (Option Tmp)) (m : Nat) (V : List VP) {l : Nat → Bool} (hl : ∀ i, l i = false) : AInv a0 w0 L m V l (fun _ => False) a0 w0 :=
  ⟨rfl, rfl, Below.refl _ _, fun _ h => h.elim, fun _ _ => rfl, fun i t _ _ h => by rw [hl i] at h; cases h⟩
theorem AInv.step {l l' : Nat → Bool} {B B' : Nat → Prop} {a : Act} {w w' : World} {i : Nat} {v : Value} {N : Option Tmp} (inv : AInv a0 w0 L m V l B a w) (him : i < m) (hN : L[i]? = some N) (hset1 : l' i = true) (hset : ∀ j, j ≠ i → l' j = l j)
    (huniq : ∀ (i j : Nat) (t : Tmp), i < m → j < m → L[i]? = some (some t) → L[j]? = some (some t) → i = j) (hlt : ∀ (i : Nat) (t : Tmp), i < m → L[i]? = some (some t) → t < a0.tmps.size)
    (hv : (V.getD i VP.any).p B' w' v) (hb : Below w.heap.size w w') (hB0 : ∀ k, B k → B' k) (hB1 : ∀ k, B' k → B k ∨ w.heap.size ≤ k) (hB2 : ∀ k, B' k → w0.heap.size ≤ k ∧ k < w'.heap.size) : AInv a0 w0 L m V l' B' (a.put N v) w' := by
  refine ⟨?_, ?_, ?_, hB2, ?_, ?_⟩
  · rw [put_size]; exact inv.size
  · rw [put_defers]; exact inv.defers
  · exact inv.below.trans (hb.mono inv.below.size)
  · intro t ht
    have hne : ∀ M, N = some M → t ≠ M := by
      intro M hM htM
      subst htM
      subst hM
      have := ht i him hN
      rw [hset1] at this
      cases this
    rw [show (a.put N v).eval (.tmp t) = a.eval (.tmp t) from by
      cases hM : N with
      | none => rfl
      | some M => exact put_other (hne M hM)]
    refine inv.other t (fun j hj hjt => ?_)
    have := ht j hj hjt
    by_cases hji : j = i
    · subst hji
      rw [hset1] at this
      cases this
    · rw [hset j hji] at this
      exact this
  · intro j t hj hjt hjl
    by_cases hji : j = i
    · subst hji
      have hM : N = some t := by
        rw [hjt] at hN
        exact (Option.some.inj hN).symm
      rw [hM, put_same (by rw [inv.size]; exact hlt j t hj hjt)]
      exact hv
    · rw [hset j hji] at hjl
      have hne : ∀ M, N = some M → t ≠ M := by
        intro M hM htM
        subst htM
        subst hM
        exact hji (huniq j i t hj him hjt hN)
      rw [show (a.put N v).eval (.tmp t) = a.eval (.tmp t) from by
        cases hM : N with
        | none => rfl
        | some M => exact put_other (hne M hM)]
      exact (V.getD j VP.any).move B B' _ _ _ hb hB0 hB1 (inv.vals j t hj hjt hjl)
theorem AInv.filled {l : Nat → Bool} {B : Nat → Prop} {a : Act} {w : World} (inv : AInv a0 w0 L m V l B a w) : a = fillA (fun t => a.eval (.tmp t)) (L.take m) a0 := by
  refine act_ext ?_ ?_ (fun t ht => ?_)
  · rw [fillA_size, inv.size]
  · rw [fillA_defers, inv.defers]
  · by_cases hmem : some t ∈ L.take m
    · rw [fillA_at _ _ hmem (by rw [← inv.size]; exact ht)]
    · rw [fillA_other _ _ hmem]
      refine inv.other t (fun j hj hjt => ?_)
      exact absurd (List.mem_of_getElem? (i := j) (by rw [List.getElem?_take_of_lt hj]; exact hjt)) hmem
end
/-- what is left to walk when the first m operations have come up -/
def Tail (P : Program) (ops : Array Oper) (Q : Exit → Act → World → Prop) (a0 : Act) (w0 : World) (L : List (Option Tmp)) (m : Nat) (V : List VP) (R : List Oper) : Prop :=
  ∀ (vals : Nat → Value) (F : Act) (W : World) (B : Nat → Prop), F = fillA vals (L.take m) a0 → Below w0.heap.size w0 W → (∀ k, B k → w0.heap.size ≤ k ∧ k < W.heap.size) → (∀ i t, i < m → L[i]? = some (some t) → (V.getD i VP.any).p B W (vals t)) → wpList P ops Q R F W
theorem any_tail {id : Nat} {a0 : Act} {w : World} {T : Bool × List (List Nat × List Nat)} {R : List Oper} (L : List (Option Tmp)) (n m : Nat) (Bt : List Nat) (V : List VP) (hm : P.follows .mixedOrders = true) (hT : rtab .any ops = T) (hL : ops.toList.map (·.dst) = L) (hn : a0.tmps.size = n) (hc : okL L n m T Bt = true) (hR : ops.toList.drop m = R)
    (step : Each (StepOk P ops Q a0 w.drew L T V) m 0 ops.toList) (last : Tail P ops Q a0 w.drew L m V R) : (Code.region id ops true).wp P Q a0 w := by
  simp only [okL, Bool.and_eq_true, decide_eq_true_eq] at hc
  obtain ⟨⟨⟨⟨c1, c2⟩, c3⟩, c4, c4b⟩, c5⟩ := hc
  have hsz : ops.size = L.length := by rw [← hL]; simp
  have hdst : ∀ (i : Nat) (o : Oper), ops[i]? = some o → L[i]? = some o.dst := by
    intro i o ho
    rw [← hL, List.getElem?_map, Array.getElem?_toList, ho]
    rfl
  have hneeds : ∀ (i : Nat) (o : Oper), ops[i]? = some o → (T.2.getD i ([], [])).1 = needsOf .any o := by
    intro i o ho
    rw [← hT, List.getD_eq_getElem?_getD, rtab_some ho]
    rfl
  have hneed : ∀ (i : Nat) (o : Oper) (l : Array Bool), ops[i]? = some o → (∀ e ∈ o.after, Region.binds .any e = true → l.getD e.on false = true) → ∀ j, ((T.2.getD i ([], [])).1).contains j = true → l.getD j false = true := by
    intro i o l ho hall j hj
    rw [hneeds i o ho] at hj
    unfold needsOf at hj
    rw [List.contains_iff_mem, List.mem_map] at hj
    obtain ⟨e, he, rfl⟩ := hj
    rw [List.mem_filter] at he
    exact hall e (by simpa using he.1) he.2
  have hback : ∀ (i : Nat) (o : Oper) (l : Array Bool), ops[i]? = some o → (∀ j, ((T.2.getD i ([], [])).1).contains j = true → l.getD j false = true) → l.getD i true = false → i ∈ Region.ready .any ops l := by
    intro i o l ho h hl
    refine mem_ready.2 ⟨hl, o, ho, fun e he hb => ?_⟩
    refine h e.on ?_
    rw [hneeds i o ho, List.contains_iff_mem]
    unfold needsOf
    rw [List.mem_map]
    exact ⟨e, by rw [List.mem_filter]; exact ⟨by simpa using he, hb⟩, rfl⟩
  have hlt : ∀ (i : Nat) (t : Tmp), i < m → L[i]? = some (some t) → t < n := by
    intro i t hi ht
    have := List.all_eq_true.1 c2 (some t) (List.mem_of_getElem? (i := i) (by rw [List.getElem?_take_of_lt hi]; exact ht))
    simpa using this
  have huniq : ∀ (i j : Nat) (t : Tmp), i < m → j < m → L[i]? = some (some t) → L[j]? = some (some t) → i = j := by
    intro i j t hi hj h1 h2
    exact nodup_get c3 (by rw [List.getElem?_take_of_lt hi]; exact h1) (by rw [List.getElem?_take_of_lt hj]; exact h2)
  have g1 : ∀ (l : Array Bool) (i : Nat), i < l.size → l.getD i true = false → l.getD i false = false := by
    intro l i hi h
    simp only [Array.getD_eq_getD_getElem?, Array.getElem?_eq_getElem hi, Option.getD_some] at h ⊢
    exact h
  have g2 : ∀ (l : Array Bool) (i : Nat), i < l.size → l.getD i false ≠ true → l.getD i true = false := by
    intro l i hi h
    simp only [Array.getD_eq_getD_getElem?, Array.getElem?_eq_getElem hi, Option.getD_some] at h ⊢
    simpa using h
  have htail : ∀ (l : Array Bool) (d : Nat), ListedClosed .any ops l → l.size = L.length → m ≤ d → d ∈ Region.ready .any ops l → ∀ i, i < d → l.getD i false = true := by
    intro l d hcl hls hmd hd i hid
    apply Classical.byContradiction
    intro hno
    obtain ⟨_, o, ho, _⟩ := mem_ready.1 hd
    have hdl : d < L.length := by rw [← hsz]; exact (Array.getElem?_eq_some_iff.1 ho).1
    have hb := List.all_eq_true.1 c4b d (List.mem_range.2 hdl)
    rw [Bool.or_eq_true, decide_eq_true_eq] at hb
    have hbit := List.all_eq_true.1 (hb.resolve_left (by omega)) i (List.mem_range.2 hid)
    have hTl : T.2.length = L.length := by rw [← hT, rtab_length, hsz]
    have hr := reach_bit c4 (d + 1) d (by omega) (by rw [hTl]; exact hdl) hbit
    rw [← hT, ← reach_eq] at hr
    exact Region.reach_not_ready hcl hr (g2 l i (by omega) hno) hd
  have hfirst : ∀ (l : Array Bool), l.size = L.length → (∃ i, i < L.length ∧ l.getD i true = false) → Region.ready .any ops l ≠ [] := by
    intro l hls ⟨i, hi, hil⟩ hr
    have fst : ∀ (d i : Nat), d = i → (i < L.length ∧ l.getD i true = false) → ∃ i0, i0 < L.length ∧ l.getD i0 true = false ∧ ∀ j, j < i0 → l.getD j false = true := by
      intro d
      induction d using Nat.strongRecOn with
      | _ d ih =>
        intro i hd hi
        by_cases h : ∀ j, j < i → l.getD j false = true
        · exact ⟨i, hi.1, hi.2, h⟩
        · simp only [Classical.not_forall] at h
          obtain ⟨j, hj, hjl⟩ := h
          exact ih j (by omega) j rfl ⟨by omega, g2 l j (by omega) hjl⟩
    obtain ⟨i0, h1, h2, h3⟩ := fst i i rfl ⟨hi, hil⟩
    have ho : ops[i0]? = some (ops[i0]'(by omega)) := Array.getElem?_eq_getElem (by omega)
    have := hback i0 _ l ho (fun j hj => h3 j (by
      have := List.all_eq_true.1 c5 i0 (List.mem_range.2 h1)
      have := List.all_eq_true.1 this j (List.contains_iff_mem.1 hj)
      simpa using this)) h2
    rw [hr] at this
    cases this
  have hset : ∀ (l : Array Bool) (i j : Nat), j ≠ i → ∀ b, (l.setIfInBounds i true).getD j b = l.getD j b := by
    intro l i j hj b
    simp [Array.getD_eq_getD_getElem?, Array.getElem?_setIfInBounds, Ne.symm hj]
  have hset1 : ∀ (l : Array Bool) (i : Nat), i < l.size → ∀ b, (l.setIfInBounds i true).getD i b = true := by
    intro l i hi b
    simp [Array.getD_eq_getD_getElem?, Array.getElem?_setIfInBounds, hi]
  -- the tail, one by one
  have tail : ∀ (q d : Nat) (l : Array Bool) (a : Act) (W : World) (fuel : Nat), d + q = L.length → m ≤ d → q ≤ fuel → l.size = L.length → ListedClosed .any ops l → (∀ i, i < d → l.getD i false = true) → (∀ i, d ≤ i → i < L.length → l.getD i true = false) → wpList P ops Q (ops.toList.drop d) a W → wpAny P .any ops Q fuel l a W := by
    intro q
    induction q with
    | zero =>
      intro d l a W fuel hd hmd hq hls hcl hall _ hw
      rw [List.drop_of_length_le (by rw [Array.length_toList]; omega)] at hw
      refine wpAny_done ?_ hw fuel
      rw [List.eq_nil_iff_forall_not_mem]
      intro j hj
      obtain ⟨q1, oj, hoj, _⟩ := mem_ready.1 hj
      have hjm : j < L.length := by rw [← hsz]; exact (Array.getElem?_eq_some_iff.1 hoj).1
      have := g1 l j (by omega) q1
      rw [hall j (by omega)] at this
      cases this
    | succ q ih =>
      intro d l a W fuel hd hmd hq hls hcl hall hun hw
      obtain ⟨fuel, rfl⟩ : ∃ f, fuel = f + 1 := ⟨fuel - 1, by omega⟩
      have hdl : d < ops.toList.length := by rw [Array.length_toList]; omega
      rw [List.drop_eq_getElem_cons hdl] at hw
      refine ⟨fun hr => absurd hr (hfirst l hls ⟨d, by omega, hun d (Nat.le_refl _) (by omega)⟩), fun i hi => ?_⟩
      have hid : i = d := by
        obtain ⟨q1, oi, hoi, _⟩ := mem_ready.1 hi
        have hil : i < L.length := by rw [← hsz]; exact (Array.getElem?_eq_some_iff.1 hoi).1
        rcases Nat.lt_trichotomy i d with h | h | h
        · have := g1 l i (by omega) q1
          rw [hall i h] at this
          cases this
        · exact h
        · have := htail l i hcl hls (by omega) hi d h
          rw [g1 l d (by omega) (hun d (Nat.le_refl _) (by omega))] at this
          cases this
      subst hid
      have ho : ops[i]? = some ops.toList[i] := by rw [← Array.getElem?_toList]; exact List.getElem?_eq_getElem hdl
      have hw2 : wpOp P ops Q i (wpList P ops Q (ops.toList.drop (i + 1))) a W := by
        unfold wpOp
        rw [ho]
        exact hw
      refine wpOp_mono (fun a' w' h => ?_) hw2
      refine ih (i + 1) _ a' w' fuel (by omega) (by omega) (by omega) (by rw [Array.size_setIfInBounds]; exact hls) (hcl.set hi) (fun j hj => ?_) (fun j hj hjl => ?_) h
      · by_cases hji : j = i
        · subst hji; exact hset1 l j (by omega) _
        · rw [hset l i j hji]; exact hall j (by omega)
      · rw [hset l i j (by omega)]
        exact hun j (by omega) hjl
  refine wp_region_any hm ?_
  have key : ∀ (fuel : Nat) (l : Array Bool) (B : Nat → Prop) (a : Act) (W : World), AInv a0 w.drew L m V (fun i => l.getD i false) B a W → l.size = L.length → ListedClosed .any ops l → (∀ i, m ≤ i → i < L.length → l.getD i true = false) → (List.range L.length).countP (fun i => !l.getD i true) ≤ fuel → wpAny P .any ops Q fuel l a W := by
    intro fuel
    induction fuel with
    | zero =>
      intro l B a W inv hls hcl hun hf
      have h0 : (List.range L.length).countP (fun i => !l.getD i true) = 0 := by omega
      rw [List.countP_eq_zero] at h0
      exact absurd (by rw [hun m (Nat.le_refl _) c1]; rfl) (h0 m (List.mem_range.2 c1))
    | succ fuel ih =>
      intro l B a W inv hls hcl hun hf
      refine ⟨fun hr => absurd hr (hfirst l hls ⟨m, c1, hun m (Nat.le_refl _) c1⟩), fun i hi => ?_⟩
      obtain ⟨h1, o, ho, h2'⟩ := mem_ready.1 hi
      have h2 := hneed i o l ho h2'
      have hil : i < L.length := by rw [← hsz]; exact (Array.getElem?_eq_some_iff.1 ho).1
      by_cases him : i < m
      · unfold wpOp
        rw [ho]
        simp only
        have hst := Each.at m 0 ops.toList step i o him (by rw [Array.getElem?_toList]; exact ho)
        rw [Nat.zero_add] at hst
        have hgo : ∀ (B' : Nat → Prop) v W', (V.getD i VP.any).p B' W' v → Below W.heap.size W W' → (∀ k, B k → B' k) → (∀ k, B' k → B k ∨ W.heap.size ≤ k) → (∀ k, B' k → w.drew.heap.size ≤ k ∧ k < W'.heap.size) → wpAny P .any ops Q fuel (l.setIfInBounds i true) (a.put o.dst v) W' := by
          intro B' v W' hv hb hB0 hB1 hB2
          refine ih _ B' _ _ (inv.step him (hdst i o ho) (hset1 l i (by omega) _) (fun j hj => hset l i j hj _) huniq (fun i t h3 h4 => by rw [hn]; exact hlt i t h3 h4) hv hb hB0 hB1 hB2) (by rw [Array.size_setIfInBounds]; exact hls) (hcl.set hi) (fun j hj hjl => by rw [hset l i j (by omega)]; exact hun j hj hjl) ?_
          have := countP_lt (p := fun j => !l.getD j true) (q := fun j => !(l.setIfInBounds i true).getD j true) (List.range L.length) (fun j _ hq => by
            by_cases hji : j = i
            · subst hji
              rw [hset1 l j (by omega)] at hq
              cases hq
            · rwa [hset l i j hji] at hq) ⟨i, List.mem_range.2 hil, by rw [h1]; rfl, by rw [hset1 l i (by omega)]; rfl⟩
          omega
        have hst2 := hst a W B inv.below inv.boxes (fun t ht => inv.other t (fun j hj hjt => absurd (List.contains_iff_mem.2 (List.mem_of_getElem? hjt)) (by rw [ht]; simp)))
          (fun j t hj hjt => by
            have hjm : j < m := by
              have := List.all_eq_true.1 c5 i (List.mem_range.2 hil)
              have := List.all_eq_true.1 this j (List.contains_iff_mem.1 hj)
              simp only [decide_eq_true_eq] at this
              omega
            exact inv.vals j t hjm hjt (h2 j hj)) (wpAny P .any ops Q fuel (l.setIfInBounds i true))
          (fun v W' hv hb => hgo B v W' hv hb (fun k hk => hk) (fun k hk => .inl hk) (fun k hk => ⟨(inv.boxes k hk).1, Nat.lt_of_lt_of_le (inv.boxes k hk).2 hb.size⟩))
          (fun v W' hv hb hlt2 => hgo _ v W' hv hb (fun k hk => .inl hk) (fun k hk => hk.elim .inl (fun h => .inr (Nat.le_of_eq h.symm))) (fun k hk => hk.elim (fun hk => ⟨(inv.boxes k hk).1, Nat.lt_of_lt_of_le (inv.boxes k hk).2 hb.size⟩) (fun h => by rw [h]; exact ⟨inv.below.size, hlt2⟩)))
        by_cases hw : Region.wanted o (yielded ops a.tmps) = true
        · rw [if_pos hw] at hst2 ⊢
          exact .inl hst2
        · rw [if_neg hw] at hst2 ⊢
          exact hst2
      · have hall := htail l i hcl hls (by omega) hi
        have hime : i = m := by
          rcases Nat.lt_or_ge m i with h | h
          · have := hall m h
            rw [g1 l m (by omega) (hun m (Nat.le_refl _) c1)] at this
            cases this
          · omega
        subst hime
        have hl := last (fun t => a.eval (.tmp t)) a W B inv.filled inv.below inv.boxes (fun j t hj hjt => inv.vals j t hj hjt (hall j hj))
        rw [← hR] at hl
        have hdl : i < ops.toList.length := by rw [Array.length_toList]; omega
        rw [List.drop_eq_getElem_cons hdl] at hl
        have ho2 : ops[i]? = some ops.toList[i] := by rw [← Array.getElem?_toList]; exact List.getElem?_eq_getElem hdl
        have hw2 : wpOp P ops Q i (wpList P ops Q (ops.toList.drop (i + 1))) a W := by
          unfold wpOp
          rw [ho2]
          exact hl
        refine wpOp_mono (fun a' w' h => ?_) hw2
        refine tail (L.length - (i + 1)) (i + 1) _ a' w' fuel (by omega) (by omega) ?_ (by rw [Array.size_setIfInBounds]; exact hls) (hcl.set hi) (fun j hj => ?_) (fun j hj hjl => ?_) h
        · have hle : L.length - i ≤ (List.range L.length).countP (fun j => !l.getD j true) := by
            have hcount : ∀ (k : Nat), k ≤ L.length → k - i ≤ (List.range k).countP (fun j => !l.getD j true) := by
              intro k
              induction k with
              | zero => intro _; omega
              | succ k ihk =>
                intro hk
                rw [List.range_succ, List.countP_append, List.countP_cons, List.countP_nil]
                have := ihk (by omega)
                by_cases hki : i ≤ k
                · rw [hun k hki (by omega)]
                  simp only [Bool.not_false, if_true]
                  omega
                · omega
            exact hcount L.length (Nat.le_refl _)
          omega
        · by_cases hji : j = i
          · subst hji; exact hset1 l j (by omega) _
          · rw [hset l i j hji]; exact hall j (by omega)
        · rw [hset l i j (by omega)]
          exact hun j (by omega) hjl
  refine key ops.size _ (fun _ => False) a0 w.drew (AInv.start a0 w.drew L m V (fun i => ?_)) (by rw [Array.size_replicate, hsz]) (fun j oj hj hl => ?_) (fun i _ hi => ?_) ?_
  · by_cases hi : i < ops.size <;> simp [Array.getD_eq_getD_getElem?, hi]
  · exfalso
    by_cases hi : j < ops.size <;> simp [Array.getD_eq_getD_getElem?, hi] at hl
  · simp [Array.getD_eq_getD_getElem?, hsz, hi]
  · rw [hsz]
    exact Nat.le_trans List.countP_le_length (by simp)
/-- the table of a region in its own order: each waits for all ahead of it -/
def seqT (n : Nat) : Bool × List (List Nat × List Nat) := (true, (List.range n).map (fun i => (List.range i, [])))
def okS (L : List (Option Tmp)) (n m : Nat) : Bool :=
  decide (m ≤ L.length) && (L.take m).all (fun N => match N with | some t => decide (t < n) | none => false) && decide (L.take m).Nodup
/-- a region in its own order -/
theorem seq_tail {id : Nat} {a0 : Act} {w : World} {R : List Oper} (L : List (Option Tmp)) (n m : Nat) (V : List VP) (hL : ops.toList.map (·.dst) = L) (hn : a0.tmps.size = n) (hc : okS L n m = true) (hR : ops.toList.drop m = R)
    (step : Each (StepOk P ops Q a0 w L (seqT m) V) m 0 ops.toList) (last : Tail P ops Q a0 w L m V R) : (Code.region id ops false).wp P Q a0 w := by
  simp only [okS, Bool.and_eq_true, decide_eq_true_eq] at hc
  obtain ⟨⟨c1, c2⟩, c3⟩ := hc
  have hsz : ops.size = L.length := by rw [← hL]; simp
  have hdst : ∀ (i : Nat) (o : Oper), ops[i]? = some o → L[i]? = some o.dst := by
    intro i o ho
    rw [← hL, List.getElem?_map, Array.getElem?_toList, ho]
    rfl
  have hlt : ∀ (i : Nat) (t : Tmp), i < m → L[i]? = some (some t) → t < n := by
    intro i t hi ht
    have := List.all_eq_true.1 c2 (some t) (List.mem_of_getElem? (i := i) (by rw [List.getElem?_take_of_lt hi]; exact ht))
    simpa using this
  have huniq : ∀ (i j : Nat) (t : Tmp), i < m → j < m → L[i]? = some (some t) → L[j]? = some (some t) → i = j := by
    intro i j t hi hj h1 h2
    exact nodup_get c3 (by rw [List.getElem?_take_of_lt hi]; exact h1) (by rw [List.getElem?_take_of_lt hj]; exact h2)
  refine wp_region_list ?_
  have key : ∀ (q d : Nat) (B : Nat → Prop) (a : Act) (W : World), d + q = m → AInv a0 w L m V (fun i => decide (i < d)) B a W → wpList P ops Q (ops.toList.drop d) a W := by
    intro q
    induction q with
    | zero =>
      intro d B a W hd inv
      obtain rfl : d = m := by omega
      rw [hR]
      exact last (fun t => a.eval (.tmp t)) a W B inv.filled inv.below inv.boxes (fun j t hj hjt => inv.vals j t hj hjt (decide_eq_true hj))
    | succ q ih =>
      intro d B a W hd inv
      have hdl : d < ops.toList.length := by rw [Array.length_toList]; omega
      have ho : ops[d]? = some ops.toList[d] := by rw [← Array.getElem?_toList]; exact List.getElem?_eq_getElem hdl
      rw [List.drop_eq_getElem_cons hdl]
      have hst := Each.at m 0 ops.toList step d _ (by omega) (List.getElem?_eq_getElem hdl)
      rw [Nat.zero_add] at hst
      have hTn : ((seqT m).2.getD d ([], [])).1 = List.range d := by
        have hdm : d < m := by omega
        simp [seqT, List.getD_eq_getElem?_getD, List.getElem?_range hdm]
      have hgo : ∀ (B' : Nat → Prop) v W', (V.getD d VP.any).p B' W' v → Below W.heap.size W W' → (∀ k, B k → B' k) → (∀ k, B' k → B k ∨ W.heap.size ≤ k) → (∀ k, B' k → w.heap.size ≤ k ∧ k < W'.heap.size) → wpList P ops Q (ops.toList.drop (d + 1)) (a.put ops.toList[d].dst v) W' := by
        intro B' v W' hv hb hB0 hB1 hB2
        exact ih (d + 1) B' _ _ (by omega) (inv.step (by omega) (hdst d _ ho) (decide_eq_true (by omega)) (fun j hj => by rw [decide_eq_decide]; omega) huniq (fun i t h3 h4 => by rw [hn]; exact hlt i t h3 h4) hv hb hB0 hB1 hB2)
      have hst2 := hst a W B inv.below inv.boxes (fun t ht => inv.other t (fun j hj hjt => absurd (List.contains_iff_mem.2 (List.mem_of_getElem? hjt)) (by rw [ht]; simp)))
        (fun j t hj hjt => by
          rw [hTn] at hj
          have hjd : j < d := List.mem_range.1 (List.contains_iff_mem.1 hj)
          exact inv.vals j t (by omega) hjt (decide_eq_true hjd)) (wpList P ops Q (ops.toList.drop (d + 1)))
        (fun v W' hv hb => hgo B v W' hv hb (fun k hk => hk) (fun k hk => .inl hk) (fun k hk => ⟨(inv.boxes k hk).1, Nat.lt_of_lt_of_le (inv.boxes k hk).2 hb.size⟩))
        (fun v W' hv hb hlt2 => hgo _ v W' hv hb (fun k hk => .inl hk) (fun k hk => hk.elim .inl (fun h => .inr (Nat.le_of_eq h.symm))) (fun k hk => hk.elim (fun hk => ⟨(inv.boxes k hk).1, Nat.lt_of_lt_of_le (inv.boxes k hk).2 hb.size⟩) (fun h => by rw [h]; exact ⟨inv.below.size, hlt2⟩)))
      by_cases hw : Region.wanted ops.toList[d] (yielded ops a.tmps) = true
      · rw [if_pos hw] at hst2
        show (if _ then _ else _)
        rw [if_pos hw]
        exact .inl hst2
      · rw [if_neg hw] at hst2
        show (if _ then _ else _)
        rw [if_neg hw]
        exact hst2
  have := key m 0 (fun _ => False) a0 w (by omega) (AInv.start a0 w L m V (fun i => decide_eq_false (Nat.not_lt_zero i)))
  rwa [List.drop_zero] at this
end
/-! ### Regions by any_tail with guards: every value is told under its guard's Bool -/
section
variable {P : Program} {ops : Array Oper} {Q : Exit → Act → World → Prop} {o : Oper} {b : Act} {W : World} {K : Act → World → Prop} {s s1 s2 s3 : Tmp}
theorem tm_eval {b : Act} {t : Tmp} {v : Value} (h : b.eval (.tmp t) = v) : b.tmps[t]?.getD undef = v := by
  rw [← h]
  simp [Act.eval]
theorem cnd {C : Bool} {e u : Value} (h : e = cond C u undef) (hC : C = true) : e = u := by rw [h, hC]; rfl
theorem cnd_and {C D : Bool} {e u : Value} (h : e = cond (C && D) u undef) (hC : C = true) : e = cond D u undef := by rw [h, hC]; rfl
theorem and_l {C D : Bool} (h : (C && D) = true) : C = true := by cases C; cases h; rfl
theorem and_r {C D : Bool} (h : (C && D) = true) : D = true := by cases C; cases h; exact h
theorem wn_ (hg : o.guard = none := by rfl) : Region.wanted o (yielded ops b.tmps) = true := by unfold Region.wanted; rw [hg]
theorem wg {j : Nat} {want : Bool} {t : Tmp} {C x : Bool} (he : b.eval (.tmp t) = cond C (.bool x) undef) (hg : o.guard = some (j, want) := by rfl) (hj : (ops[j]?).bind (·.dst) = some t := by kernel_rfl) : Region.wanted o (yielded ops b.tmps) = (C && (x == want)) := by
  unfold Region.wanted
  rw [hg]
  simp only
  unfold yielded
  rw [hj]
  simp only [Option.bind_some]
  unfold Act.eval at he
  simp only [Array.getD_eq_getD_getElem?] at he
  cases h : b.tmps[t]? with
  | none =>
    rw [h] at he
    cases C with
    | false => rfl
    | true => cases he
  | some v =>
    rw [h] at he
    simp only [Option.getD_some] at he
    subst he
    cases C with
    | false => rfl
    | true => cases x <;> cases want <;> rfl
theorem wg0 {j : Nat} {want : Bool} {t : Tmp} {x : Bool} (he : b.eval (.tmp t) = .bool x) (hg : o.guard = some (j, want) := by rfl) (hj : (ops[j]?).bind (·.dst) = some t := by kernel_rfl) : Region.wanted o (yielded ops b.tmps) = (x == want) := (wg (C := true) he hg hj).trans (Bool.true_and _)
theorem gd_step {C : Bool} {u : Value} (hw : Region.wanted o (yielded ops b.tmps) = C) (hr : C = true → (execOp b.eval o).run P W = .ok (.value u) W) (hK : K (b.put o.dst (cond C u undef)) W) :
    if Region.wanted o (yielded ops b.tmps) = true then Oper.wp P o b W K Q else K (b.put o.dst undef) W := by
  cases C with
  | true => exact value_ hw rfl (hr rfl) hK
  | false => rw [hw]; exact hK
theorem gc_step {C : Bool} {u : Value} {f : FuncId} {args : Array Value} (hw : Region.wanted o (yielded ops b.tmps) = C) (hr : C = true → (execOp b.eval o).run P W = .ok (.enter f args) W ∧ Calls P f args W fun e W' => e = .returned u ∧ Below W.heap.size W W') (hK : ∀ W', Below W.heap.size W W' → K (b.put o.dst (cond C u undef)) W') :
    if Region.wanted o (yielded ops b.tmps) = true then Oper.wp P o b W K Q else K (b.put o.dst undef) W := by
  cases C with
  | true => exact call_ f args hw rfl (hr rfl).1 ((hr rfl).2.mono (fun e W' h => ⟨u, h.1, hK W' h.2⟩))
  | false => rw [hw]; exact hK W (Below.refl _ _)
theorem last_step {C : Bool} {u : Value} {R : List Oper} (hw : Region.wanted o (yielded ops b.tmps) = C) (hr : C = true → (execOp b.eval o).run P W = .ok (.value u) W) (hK : wpList P ops Q R (b.put o.dst (cond C u undef)) W) : wpList P ops Q (o :: R) b W := by
  have h := gd_step (Q := Q) (K := wpList P ops Q R) hw hr hK
  unfold wpList
  by_cases hq : Region.wanted o (yielded ops b.tmps) = true
  · rw [if_pos hq] at h ⊢
    exact .inl h
  · rw [if_neg hq] at h ⊢
    exact h
theorem x_move {u : Value} (ho : o.op = .move (.tmp s)) (h : b.eval (.tmp s) = u) : (execOp b.eval o).run P W = .ok (.value u) W := by
  unfold execOp
  rw [ho]
  simp only [h]
  rfl
theorem x_assign {u : Value} (ho : o.op = .assign (.tmp s)) (h : b.eval (.tmp s) = u) : (execOp b.eval o).run P W = .ok (.value u) W := by
  unfold execOp
  rw [ho]
  simp only [h]
  rfl
theorem x_assignc {u : Value} (ho : o.op = .assign (.const u)) : (execOp b.eval o).run P W = .ok (.value u) W := by
  unfold execOp
  rw [ho]
  rfl
theorem x_or {x y : Bool} (ho : o.op = .pick (.tmp s) (.const (.bool true)) (.tmp s2)) (h1 : b.eval (.tmp s) = .bool x) (h2 : b.eval (.tmp s2) = cond (x == false) (.bool y) undef) : (execOp b.eval o).run P W = .ok (.value (.bool (x || y))) W := by
  unfold execOp
  rw [ho]
  simp only [h1, h2]
  cases x <;> rfl
theorem x_and {x y : Bool} (ho : o.op = .pick (.tmp s) (.tmp s2) (.const (.bool false))) (h1 : b.eval (.tmp s) = .bool x) (h2 : b.eval (.tmp s2) = cond (x == true) (.bool y) undef) : (execOp b.eval o).run P W = .ok (.value (.bool (x && y))) W := by
  unfold execOp
  rw [ho]
  simp only [h1, h2]
  cases x <;> rfl
theorem x_not {x : Bool} {t : TypeId} (ho : o.op = .unOp .not t (.tmp s)) (h : b.eval (.tmp s) = .bool x) : (execOp b.eval o).run P W = .ok (.value (.bool (!x))) W := by
  unfold execOp
  rw [ho]
  simp only [h]
  rfl
theorem x_call {f : FuncId} {fn : Func} {aa : Array Operand} {ts : Array TypeId} {args : Array Value} (hf : P.funcs[f]? = some fn) (hname : (fn.name == "runtime.NumGoroutine") = false) (hb : fn.body.isSome = true) (ho : o.op = .call { callee := .value (.func f), args := aa, argTypes := ts }) (h : aa.map b.eval = args) : (execOp b.eval o).run P W = .ok (.enter f args) W := by
  have he := enters_ hf hname hb args W
  unfold execOp
  simp [ho, resolve, Deferred.ofValue, invoke, Act.eval, h, he]
theorem args1 {b : Act} {p : Operand} {x : Value} (h1 : b.eval p = x) : (#[p] : Array Operand).map b.eval = #[x] := by
  simp only [List.map_toArray, List.map_cons, List.map_nil, h1]
theorem args2 {b : Act} {p q : Operand} {x y : Value} (h1 : b.eval p = x) (h2 : b.eval q = y) : (#[p, q] : Array Operand).map b.eval = #[x, y] := by
  simp only [List.map_toArray, List.map_cons, List.map_nil, h1, h2]
theorem args3 {b : Act} {p q r : Operand} {x y z : Value} (h1 : b.eval p = x) (h2 : b.eval q = y) (h3 : b.eval r = z) : (#[p, q, r] : Array Operand).map b.eval = #[x, y, z] := by
  simp only [List.map_toArray, List.map_cons, List.map_nil, h1, h2, h3]
/-- a bind behind a test -/
theorem ifb {α β : Type} [Inhabited α] {G : Bool} {o : Option α} {f : α → Option β} {t z : β} (h : (if G = true then some z else o.bind f) = some t) : ∃ u, ((G == false) = true → o = some u) ∧ (G = true → t = z) ∧ (G = false → f u = some t) := by
  cases G with
  | true => exact ⟨default, (fun q => by cases q), (fun _ => by rw [if_pos rfl] at h; exact (Option.some.inj h).symm), (fun q => by cases q)⟩
  | false =>
    rw [if_neg Bool.false_ne_true] at h
    obtain ⟨u, hu, h⟩ := Option.bind_eq_some_iff.1 h
    exact ⟨u, fun _ => hu, (fun q => by cases q), fun _ => h⟩
/-- a test and an end -/
theorem ifz {β : Type} {G : Bool} {o : Option β} {t z : β} (h : (if G = true then some z else o) = some t) : (G = true → t = z) ∧ (G = false → o = some t) := by
  cases G with
  | true => exact ⟨(fun _ => by rw [if_pos rfl] at h; exact (Option.some.inj h).symm), (fun q => by cases q)⟩
  | false => exact ⟨(fun q => by cases q), (fun _ => by rw [if_neg Bool.false_ne_true] at h; exact h)⟩
theorem eqf {b : Bool} (h : (b == false) = true) : b = false := by cases b; rfl; cases h
theorem orT {a b : Bool} {p : Prop} (h : (a || b) = true) (h1 : a = true → p) (h2 : a = false → b = true → p) : p := by cases a; exact h2 rfl h; exact h1 rfl
theorem orF1 {a b : Bool} (h : (a || b) = false) : a = false := by cases a; rfl; cases h
theorem orF2 {a b : Bool} (h : (a || b) = false) : b = false := by cases a; exact h; cases h
end
section
variable {ops : Array Oper} {Q : Exit → Act → World → Prop} {o : Oper} {b : Act} {W : World} {K : Act → World → Prop} {s s1 s2 s3 : Tmp}
theorem x_adds {x y z : ByteArray} {p q : Operand} (ho : o.op = .binOp .add 9 p q 9) (h1 : b.eval p = .string x) (h2 : b.eval q = .string y) (hz : x ++ y = z) (hl : x.size + y.size ≤ 9223372036854775807) : (execOp b.eval o).run Tryd.prog W = .ok (.value (.string z)) W := by
  have hu9 := Tryd.underlying9
  subst hz
  unfold execOp
  rw [ho]
  simp only [h1, h2]
  go_simp
theorem x_len {A : Option Addr} {n c : Nat} {t e : TypeId} (hu : Tryd.prog.underlying t = some (.slice e)) (ho : o.op = .call { callee := .builtin .len, args := #[.tmp s], argTypes := #[t] }) (h : b.eval (.tmp s) = .slice A n c) : (execOp b.eval o).run Tryd.prog W = .ok (.value (.int .i64 n)) W := by
  replace h := tm_eval h
  unfold execOp
  rw [ho]
  go_simp
theorem x_fa28 {g i : Nat} (ho : o.op = .fieldAddr 28 (.tmp s) i) (hi : i < 2) (h : b.eval (.tmp s) = .pointer (some ⟨g, 0, none⟩)) : (execOp b.eval o).run Tryd.prog W = .ok (.value (.pointer (some ⟨g, i, none⟩))) W := by
  have hu28 := Tryd.underlying28
  unfold execOp
  rw [ho]
  simp only [h]
  match i, hi with
  | 0, _ => go_simp
  | 1, _ => go_simp
theorem x_ld3 {ad : Addr} {x : Int} (ho : o.op = .load 3 (.tmp s)) (h : b.eval (.tmp s) = .pointer (some ad)) (hc : W.cell? ad = some (.int .i64 x)) : (execOp b.eval o).run Tryd.prog W = .ok (.value (.int .i64 x)) W := by
  unfold execOp
  rw [ho]
  simp only [h]
  go_simp
theorem x_ld22 {ad : Addr} {A : Option Addr} {n c : Nat} (ho : o.op = .load 22 (.tmp s)) (h : b.eval (.tmp s) = .pointer (some ad)) (hc : W.cell? ad = some (.slice A n c)) : (execOp b.eval o).run Tryd.prog W = .ok (.value (.slice A n c)) W := by
  unfold execOp
  rw [ho]
  simp only [h]
  go_simp
end

end Go.Proofs.YtelfahcjeldliaaDoor.PFnExactProofText
