/- WRITTEN BY A PROGRAM OF THIS SESSION (wip/xprint) OVER THE KIT's PRINT, FOR THIS CLAIM: for Go functions that the law reaches, one Lean function each and the proof that Go's call comes to its answer. No conditions but those that each theorem names. -/
import Derived.Test.YtelfahcjeldliaaPFnExactPropagatex0
import Derived.Test.YtelfahcjeldliaaPFnExactPropagatex4
namespace Go.Proofs.Ytelfahcjeldliaa.PFnExactPropagate
open Go.RowKit Go.Proofs.YtelfahcjeldliaaW.PrintWords Go.Proofs.YtelfahcjeldliaaW.PrintLast Go.Proofs.YtelfahcjeldliaaW.PrintMore
attribute [local go_sem] max2_int min2_int max_two min_two max_three min_three max_four min_four   -- for this text's walks alone
set_option linter.unusedVariables false
set_option linter.unusedSimpArgs false

/-! ### impl_state_unit: function 106 -/
set_option maxHeartbeats 8000000 in
set_option maxRecDepth 100000 in
theorem unit_any (g : Nat) (vals : List Int) (A : Option Addr) (c : Nat) (A1 : Option Addr) (c1 : Nat) (l : List Int) (W : World) (hs : W.cell? ⟨g, 2, none⟩ = some (.slice A vals.length c)) (hC : Kd.C (Kd.int .i64) W A vals.length vals) (hl : Kd.C (Kd.int .i64) W A1 l.length l) (hfit : fitL vals.length l = true) (hn : vals.length ≤ 4096) :
    Calls Try.prog 106 #[.pointer (some ⟨g, 0, none⟩), .slice A1 l.length c1] W fun e W' => e = .returned (.tuple #[.int .i64 (unitL vals l 0).1, .bool (unitL vals l 0).2]) ∧ W' = W := by
  have his := fun x hx => is_any g vals A c x W hs hC hx hn
  have HN := Aside0.mk hn
  have HF := Aside0.mk hfit
  have HL := Aside0.mk hl
  have hmax : l.length ≤ 9223372036854775807 := Kd.C_max hl
  clear hs hC hl hfit hn
  have HI := Aside0.mk his
  clear his
  obtain ⟨r, hr⟩ : ∃ r, unitL vals l 0 = r := ⟨_, rfl⟩
  rw [hr]
  have H' : Aside0 (unitL vals (l.drop 0) 0 = r) := ⟨by rw [List.drop_zero]; exact hr⟩
  clear hr
  go_enter Try.func106, Try.ntmps106
  go_wp2
  go_loopg [6, 11] l.length (fun gg v6 v11 wr => ∃ (one : Int) (kk : Nat), v6 = .int .i64 one ∧ v11 = .int .i64 kk ∧ kk ≤ l.length ∧ l.length - kk ≤ gg ∧ Aside0 (unitL vals (l.drop kk) one = r) ∧ wr = W)
  case atStart => exact ⟨0, 0, rfl, rfl, Nat.zero_le _, by omega, H', rfl⟩
  case round =>
    clear H'
    obtain ⟨one, kk, rfl, rfl, hk, hg, HA, rfl⟩ := hrel
    by_cases hlt : kk < l.length
    · have hltz : (kk : Int) < (l.length : Int) := by omega
      have h0z : (0 : Int) ≤ (kk : Int) := by omega
      obtain ⟨ad, ea, hx⟩ := Kd.at_int HL.out (kk : Int) h0z hltz
      subst ea
      rw [Int.toNat_natCast] at hx
      have hrd : rd l (kk : Int) = l[kk] := by unfold rd; simp [List.getD, hlt]
      have hA := HA.out
      rw [List.drop_eq_getElem_cons hlt, unitL, ← hrd] at hA
      have hfx : (rd l (kk : Int)).natAbs < vals.length := by rw [hrd]; exact fitL_at HF.out kk hlt
      have ew : IntKind.i64.wrap ((kk : Int) + 1) = ((kk + 1 : Nat) : Int) := IntWalk.i64_in _ (by omega)
      clear hrd HA
      generalize rd l (kk : Int) = x at hx hA hfx
      have hn := HN.out
      have ex : IntKind.i64.wrap (-x) = -x := IntWalk.i64_in _ (by omega)
      have h1 := HI.out x hfx
      have h2 := HI.out (-x) (by omega)
      clear hfx hn
      cases ha : isL vals x with
      | true =>
        rw [ha, if_pos rfl] at hA
        rw [ha] at h1
        subst hA
        clear ha
        go_wp2_with (go_at_call 69; refine h1.mono ?_; rintro e w' ⟨rfl, rfl⟩)
        go_ret2
        exact ⟨rfl, rfl⟩
      | false =>
        rw [ha, if_neg Bool.false_ne_true] at hA
        rw [ha] at h1
        clear ha
        cases hb : isL vals (-x) with
        | true =>
          rw [hb, if_pos rfl] at hA
          rw [hb] at h2
          clear hb
          have HA2 := Aside0.mk hA
          clear hA
          go_wp2_with (go_at_call 69; first | (refine h1.mono ?_; rintro e w' ⟨rfl, rfl⟩; clear h1) | (refine h2.mono ?_; rintro e w' ⟨rfl, rfl⟩; clear h2))
          go_roundg (gk - 1)
          case measure => omega
          case rel => exact ⟨one, kk + 1, rfl, rfl, by omega, by omega, HA2, rfl⟩
        | false =>
          rw [hb, if_neg Bool.false_ne_true] at hA
          rw [hb] at h2
          clear hb
          by_cases hxo : x = one
          · rw [if_pos hxo] at hA
            subst hxo
            have HA2 := Aside0.mk hA
            clear hA
            go_wp2_with (go_at_call 69; first | (refine h1.mono ?_; rintro e w' ⟨rfl, rfl⟩; clear h1) | (refine h2.mono ?_; rintro e w' ⟨rfl, rfl⟩; clear h2))
            go_roundg (gk - 1)
            case measure => omega
            case rel => exact ⟨x, kk + 1, rfl, rfl, by omega, by omega, HA2, rfl⟩
          · rw [if_neg hxo] at hA
            have hxo2 : (x == one) = false := beq_eq_false_iff_ne.mpr hxo
            by_cases h0 : one = 0
            · rw [if_pos h0] at hA
              subst h0
              have HA2 := Aside0.mk hA
              clear hA
              go_wp2_with (go_at_call 69; first | (refine h1.mono ?_; rintro e w' ⟨rfl, rfl⟩; clear h1) | (refine h2.mono ?_; rintro e w' ⟨rfl, rfl⟩; clear h2))
              go_roundg (gk - 1)
              case measure => omega
              case rel => exact ⟨x, kk + 1, rfl, rfl, by omega, by omega, HA2, rfl⟩
            · rw [if_neg h0] at hA
              subst hA
              have h02 : (one != 0) = true := bne_iff_ne.mpr h0
              go_wp2_with (go_at_call 69; first | (refine h1.mono ?_; rintro e w' ⟨rfl, rfl⟩; clear h1) | (refine h2.mono ?_; rintro e w' ⟨rfl, rfl⟩; clear h2))
              go_ret2
              exact ⟨rfl, rfl⟩
    · have hA := HA.out
      obtain rfl : kk = l.length := by omega
      rw [List.drop_length, unitL] at hA
      subst hA
      go_wp2
      go_ret2
      exact ⟨rfl, rfl⟩

/-! ### impl_state_propagate: function 71 -/
/-- a state in memory: block g holds it, block b its values; its formula lies in w0 -/
structure ST (w0 W : World) (g b : Nat) (vars : Int) (A : Option Addr) (n c cv : Nat) (vals : List Int) : Prop where
  base : Below w0.heap.size w0 W
  old : w0.heap.size ≤ g
  blk : W.heap[g]? = some (.cells #[.int .i64 vars, .slice A n c, .slice (some ⟨b, 0, none⟩) vals.length cv] 112 (0, 0))
  own : Kd.R (Kd.int .i64) 3 W w0.heap.size (fun _ => True) (.slice (some ⟨b, 0, none⟩) vals.length cv) vals
section
variable {w0 W W2 : World} {g b : Nat} {vars : Int} {A : Option Addr} {n c cv : Nat} {vals : List Int}
theorem ST.ne (h : ST w0 W g b vars A n c cv vals) : g ≠ b := fun e => Kd.R_ne h.own h.blk (by decide) (by simp [Value.ownBlock, e])
theorem ST.glt (h : ST w0 W g b vars A n c cv vals) : g < W.heap.size := blk_lt h.blk
theorem ST.blt (h : ST w0 W g b vars A n c cv vals) : b < W.heap.size := Kd.R_lt h.own b (by simp [Value.ownBlock])
theorem ST.bold (h : ST w0 W g b vars A n c cv vals) : w0.heap.size ≤ b := Kd.R_base h.own b (by simp [Value.ownBlock])
theorem ST.cells (h : ST w0 W g b vars A n c cv vals) : W.cell? ⟨g, 0, none⟩ = some (.int .i64 vars) ∧ W.cell? ⟨g, 1, none⟩ = some (.slice A n c) ∧ W.cell? ⟨g, 2, none⟩ = some (.slice (some ⟨b, 0, none⟩) vals.length cv) :=
  ⟨(blk_cell h.blk 0).trans rfl, (blk_cell h.blk 1).trans rfl, (blk_cell h.blk 2).trans rfl⟩
theorem ST.reads (h : ST w0 W g b vars A n c cv vals) : Kd.C (Kd.int .i64) W (some ⟨b, 0, none⟩) vals.length vals := (Kd.R_reads' h.own).2.2
theorem ST.grown {row : Option Nat} (h : ST w0 W g b vars A n c cv vals) (hg : W.grownBy W2 row) (hB : Below w0.heap.size w0 W2) (h1 : row ≠ some g) (h2 : row ≠ some b) : ST w0 W2 g b vars A n c cv vals :=
  ⟨hB, h.old, (hg.block g h.glt (fun e => h1 e.symm)).trans h.blk, Kd.R_grown1 h.own rfl hg h2⟩
theorem ST.below (h : ST w0 W g b vars A n c cv vals) (hB : Below W.heap.size W W2) : ST w0 W2 g b vars A n c cv vals :=
  ⟨h.base.trans (hB.mono h.base.size), h.old, (hB.block g h.glt).trans h.blk, Kd.R_below h.own hB⟩
theorem ST.set (h : ST w0 W g b vars A n c cv vals) (x : Int) : ST w0 (W.setCell ⟨b, x.natAbs, none⟩ (.int .i64 (if x < 0 then -1 else 1))) g b vars A n c cv (setL vals x) := by
  have hb : ∀ u, (W.setCell ⟨b, x.natAbs, none⟩ u).heap[g]? = W.heap[g]? := fun u => Below.heap_setCell W ⟨b, x.natAbs, none⟩ u g h.ne
  have hs := below_set (j := x.natAbs) (v := .int .i64 (if x < 0 then -1 else 1)) h.base h.bold
  refine ⟨hs, h.old, ?_, ?_⟩
  · rw [hb, setL_length]
    exact h.blk
  · rw [setL_length]
    unfold setL
    by_cases hx : x < 0
    · rw [if_pos hx, if_pos hx]
      have e : x.natAbs = (-x).toNat := by omega
      rw [e]
      exact (Kd.R_putg h.own (-x) (-1)).1
    · rw [if_neg hx, if_neg hx]
      have e : x.natAbs = x.toNat := by omega
      rw [e]
      exact (Kd.R_putg h.own x 1).1
end
/-- the first clause that is false, and the first literal that a clause makes true -/
def scanL (vals : List Int) : List (List Int) → Nat → Int → Option Nat × Int
  | [], _, next => (none, next)
  | c :: r, i, next => if (unitL vals c 0).2 = true then (some i, next) else scanL vals r (i + 1) (if next = 0 then (unitL vals c 0).1 else next)
/-- what follows, and the clause that is false then -/
def propL (cs : List (List Int)) : Nat → List Int → List Int → Option (List Int × List Int × Int)
  | 0, _, _ => none
  | k + 1, vals, list => match scanL vals cs 0 0 with
    | (some i, _) => some (vals, list, (i : Int))
    | (none, next) => if next = 0 then some (vals, list, -1) else if list.length < 17592186044416 then propL cs k (setL vals next) (list ++ [next]) else none
theorem unitL_fit {n : Nat} (vals : List Int) : ∀ (c : List Int) (one : Int), fitL n c = true → one.natAbs < n → (unitL vals c one).1.natAbs < n
  | [], one, _, h => h
  | x :: r, one, hf, h => by
    unfold fitL at hf
    rw [List.all_cons, Bool.and_eq_true] at hf
    have hx := of_decide_eq_true hf.1
    unfold unitL
    split
    · show (0 : Int).natAbs < n
      omega
    · split
      · exact unitL_fit vals r one hf.2 h
      · split
        · exact unitL_fit vals r one hf.2 h
        · split
          · exact unitL_fit vals r x hf.2 hx
          · show (0 : Int).natAbs < n
            omega
theorem scanL_fit {n : Nat} (vals : List Int) : ∀ (cs : List (List Int)) (i : Nat) (next : Int), (cs.all fun c => fitL n c) = true → next.natAbs < n → (scanL vals cs i next).2.natAbs < n
  | [], _, _, _, h => h
  | c :: r, i, next, hf, h => by
    rw [List.all_cons, Bool.and_eq_true] at hf
    unfold scanL
    split
    · exact h
    · refine scanL_fit vals r (i + 1) _ hf.2 ?_
      split
      · exact unitL_fit vals c 0 hf.1 (by omega)
      · exact h
theorem set_st (g b : Nat) (vars : Int) (A : Option Addr) (n c cv : Nat) (vals : List Int) (x : Int) (w0 w : World) (hS : ST w0 w g b vars A n c cv vals) (hx : x.natAbs < vals.length) (hn : vals.length ≤ 4096) :
    Calls Try.prog 70 #[.pointer (some ⟨g, 0, none⟩), .int .i64 x] w fun e W' => e = .returned (.tuple #[]) ∧ W' = w.setCell ⟨b, x.natAbs, none⟩ (.int .i64 (if x < 0 then -1 else 1)) := by
  obtain ⟨hcx, hfx⟩ := Kd.R_celln 0 hS.own (x.natAbs : Int) (by omega) (by omega)
  rw [Int.toNat_natCast] at hcx hfx
  exact set_any g b vals.length cv x _ w hS.cells.2.2 hx hn hcx hfx
theorem propL_mono (cs : List (List Int)) : ∀ (k : Nat) (vals list : List Int), LeO (propL cs k vals list) (propL cs (k + 1) vals list)
  | 0, _, _ => fun r h => by simp [propL] at h
  | k + 1, vals, list => by
    intro r h
    rw [propL] at h ⊢
    generalize scanL vals cs 0 0 = q at h ⊢
    obtain ⟨o, next⟩ := q
    cases o with
    | some i => exact h
    | none =>
      simp only at h ⊢
      by_cases h0 : next = 0
      · rw [if_pos h0] at h ⊢
        exact h
      · rw [if_neg h0] at h ⊢
        by_cases h1 : list.length < 17592186044416
        · rw [if_pos h1] at h ⊢
          exact propL_mono cs k _ _ r h
        · rw [if_neg h1] at h
          cases h
set_option maxHeartbeats 8000000 in
set_option maxRecDepth 100000 in
theorem propagate_any (k : Nat) (g b : Nat) (vars : Int) (A : Option Addr) (c cv : Nat) (cs : List (List Int)) (vals vals2 list : List Int) (at_ : Int) (w0 w : World) (hS : ST w0 w g b vars A cs.length c cv vals) (hC : Kd.C (Kd.slice 3 (Kd.int .i64)) w0 A cs.length cs) (hfit : (cs.all fun c => fitL vals.length c) = true) (hn : vals.length ≤ 4096) (hp : 0 < vals.length) (h : propL cs k vals [] = some (vals2, list, at_)) :
    Calls Try.prog 71 #[.pointer (some ⟨g, 0, none⟩)] w fun e W' => ∃ v, e = .returned (.tuple #[v, .int .i64 at_]) ∧ Kd.R (Kd.int .i64) 3 W' w.heap.size (fun _ => True) v list ∧ ST w0 W' g b vars A cs.length c cv vals2 ∧ vals2.length = vals.length ∧ KeepBut w W' b none ∧ Below w0.heap.size w0 W' := by
  have HS := Aside0.mk hS
  have HC := Aside0.mk hC
  have HF := Aside0.mk hfit
  have HN := Aside0.mk hn
  have HP := Aside0.mk hp
  have HLT := Aside0.mk (And.intro hS.glt hS.blt)
  have HK := Aside0.mk (KeepBut.refl w b none)
  have HR := Aside0.mk (Kd.R_nil (Kd.int .i64) 3 w w.heap.size (fun k_ => w.heap.size ≤ k_))
  have H' := Aside0.mk h
  have hmax : cs.length ≤ 9223372036854775807 := Kd.C_max hC
  clear hS hC hfit hn hp h
  go_enter Try.func71, Try.ntmps71
  go_wp2
  go_loopg [4] k (fun gg v4 wr => ∃ (va li : List Int), va.length = vals.length ∧ Aside0 (propL cs gg va li = some (vals2, list, at_)) ∧ Aside0 (ST w0 wr g b vars A cs.length c cv va) ∧ Aside0 (Kd.R (Kd.int .i64) 3 wr w.heap.size (fun k_ => w.heap.size ≤ k_) v4 li) ∧ Aside0 (KeepBut w wr b none))
  case atStart => exact ⟨vals, [], rfl, H', HS, HR, HK⟩
  case round =>
    clear H' HS HR HK
    obtain ⟨va, li, hva, HA, HS, HR, HK⟩ := hrel
    cases gk with
    | zero => exact absurd HA.out (by simp [propL])
    | succ k1 =>
    have hA := HA.out
    rw [propL] at hA
    clear HA
    obtain ⟨q, hq⟩ : ∃ q, scanL va cs 0 0 = q := ⟨_, rfl⟩
    have hqf := scanL_fit va cs 0 0 HF.out (by have := HP.out; show (0 : Int).natAbs < _; omega)
    rw [hq] at hA hqf
    have HQ : Aside0 (scanL va (cs.drop 0) 0 0 = q) := ⟨by rw [List.drop_zero]; exact hq⟩
    have HA := Aside0.mk hA
    have HQF := Aside0.mk hqf
    clear hq hA hqf
    obtain ⟨hc0, hc1, hc2⟩ := HS.out.cells
    have HCC := Aside0.mk (And.intro hc0 (And.intro hc1 hc2))
    clear hc0 hc2
    go_wp2
    clear hc1
    go_loopg [5, 16] cs.length (fun gg v5 v16 wr2 => ∃ (next : Int) (kk : Nat), v5 = .int .i64 next ∧ v16 = .int .i64 kk ∧ kk ≤ cs.length ∧ cs.length - kk ≤ gg ∧ Aside0 (scanL va (cs.drop kk) kk next = q) ∧ wr2 = wr)
    case atStart => exact ⟨0, 0, rfl, rfl, Nat.zero_le _, by omega, HQ, rfl⟩
    case round =>
      clear HQ
      obtain ⟨next, kk, rfl, rfl, hk, hg, HQ, rfl⟩ := hrel
      by_cases hlt : kk < cs.length
      · have hltz : (kk : Int) < (cs.length : Int) := by omega
        have h0z : (0 : Int) ≤ (kk : Int) := by omega
        obtain ⟨ad, A0, c0, ea, hx, hlen, hC0⟩ := at_L1 HC.out (kk : Int) h0z hltz
        subst ea
        rw [Int.toNat_natCast] at hx
        have hrd : rd_L1 cs (kk : Int) = cs[kk] := by unfold rd_L1; simp [List.getD, hlt]
        have hQ := HQ.out
        rw [List.drop_eq_getElem_cons hlt, scanL, ← hrd] at hQ
        have hfc : fitL vals.length (rd_L1 cs (kk : Int)) = true := by rw [hrd]; exact List.all_eq_true.1 HF.out _ (List.getElem_mem hlt)
        have ew : IntKind.i64.wrap ((kk : Int) + 1) = ((kk + 1 : Nat) : Int) := IntWalk.i64_in _ (by omega)
        clear hrd HQ
        generalize rd_L1 cs (kk : Int) = l at hx hlen hC0 hQ hfc
        have hx2 := (HS.out.base.cell (World.block_lt_of_cell? w0 _ hx)).trans hx
        have hcall := unit_any g va _ cv A0 c0 l wr HCC.out.2.2 HS.out.reads (Kd.C_below hC0 HS.out.base) (by rw [hva]; exact hfc) (by rw [hva]; exact HN.out)
        clear hx hlen hC0 hfc
        obtain ⟨u, hu⟩ : ∃ u, unitL va l 0 = u := ⟨_, rfl⟩
        rw [hu] at hQ hcall
        clear hu
        obtain ⟨one, fl⟩ := u
        simp only at hQ hcall
        cases fl with
        | true =>
          rw [if_pos rfl] at hQ
          have hA := HA.out
          subst hQ
          simp only [Option.some.injEq, Prod.mk.injEq] at hA
          obtain ⟨rfl, rfl, rfl⟩ := hA
          clear HA
          go_wp2_with (go_at_call 106; refine hcall.mono ?_; rintro e w' ⟨rfl, rfl⟩)
          go_ret2
          exact ⟨_, rfl, Kd.R_mono HR.out (fun _ _ => trivial), HS.out, hva, HK.out, HS.out.base⟩
        | false =>
          rw [if_neg Bool.false_ne_true] at hQ
          have HQ2 := Aside0.mk hQ
          clear hQ
          by_cases h0 : next = 0
          · subst h0
            rw [if_pos rfl] at HQ2
            go_wp2_with (go_at_call 106; refine hcall.mono ?_; rintro e w' ⟨rfl, rfl⟩)
            go_roundg (gk - 1)
            case measure => omega
            case rel => exact ⟨one, kk + 1, rfl, rfl, by omega, by omega, HQ2, rfl⟩
          · rw [if_neg h0] at HQ2
            have h02 : (next == 0) = false := beq_eq_false_iff_ne.mpr h0
            go_wp2_with (go_at_call 106; refine hcall.mono ?_; rintro e w' ⟨rfl, rfl⟩)
            go_roundg (gk - 1)
            case measure => omega
            case rel => exact ⟨next, kk + 1, rfl, rfl, by omega, by omega, HQ2, rfl⟩
      · have hQ := HQ.out
        obtain rfl : kk = cs.length := by omega
        rw [List.drop_length, scanL] at hQ
        subst hQ
        have hA := HA.out
        simp only at hA
        have hqf := HQF.out
        simp only at hqf
        clear HQF HA HQ
        by_cases h0 : next = 0
        · subst h0
          rw [if_pos rfl] at hA
          simp only [Option.some.injEq, Prod.mk.injEq] at hA
          obtain ⟨rfl, rfl, rfl⟩ := hA
          go_wp2
          go_ret2
          exact ⟨_, rfl, Kd.R_mono HR.out (fun _ _ => trivial), HS.out, hva, HK.out, HS.out.base⟩
        · rw [if_neg h0] at hA
          have h02 : (next == 0) = false := beq_eq_false_iff_ne.mpr h0
          by_cases hl : li.length < 17592186044416
          · rw [if_pos hl] at hA
            have H' := Aside0.mk hA
            have LM := Aside0.mk hl
            obtain ⟨hcx, hfx⟩ := Kd.R_celln 0 HS.out.own (next.natAbs : Int) (by omega) (by rw [hva]; omega)
            rw [Int.toNat_natCast] at hcx hfx
            have hcall := set_any g b va.length cv next _ wr HCC.out.2.2 (by rw [hva]; exact hqf) (by rw [hva]; exact HN.out) hcx hfx
            have HS2 := Aside0.mk (HS.out.set next)
            have HR2 := Aside0.mk (Kd.R_far (p := ⟨b, next.natAbs, none⟩) HR.out (fun k_ hk_ => by have := HLT.out.2; show k_ ≠ b; omega) (.int .i64 (if next < 0 then -1 else 1)))
            have HK2 := Aside0.mk (KeepBut.set_ HK.out next.natAbs (.int .i64 (if next < 0 then -1 else 1)))
            clear hcx hfx hl hA HS HR HK HCC
            generalize wr.setCell ⟨b, next.natAbs, none⟩ (.int .i64 (if next < 0 then -1 else 1)) = wr2 at hcall HS2 HR2 HK2
            go_wp2_with (first
              | (go_at_call 70; refine hcall.mono ?_; rintro e w' ⟨rfl, hq⟩; have hq2 := hq.symm; clear hcall hq; subst hq2)
              | ((with_reducible refine gate_builtin (b := .append) (xs := #[.tmp 40, .tmp 42]) rfl ?_); at_builtin; refine Kd.R_append (Kd.int .i64) (w0 := wr2) w.heap.size rfl (.tmp 40) (.tmp 42) 37 3 (.int .i64 0) 8 rfl Try.underlying37 info3 rfl (by decide) (by omega) u4 li next [.int .i64 next] (fun k_ => w.heap.size ≤ k_) (fun _ => False) rfl rfl ?aP (fun _ hk => hk.elim) ?aF ?aO ?aB ?aS ?aL ?_; (case aP => exact rfl); (case aF => exact fun k_ hk_ => Nat.le_trans HK2.out.1 hk_); (case aO => exact HR2.out); (case aB => exact Below.refl _ _); (case aS => exact HK2.out.1); (case aL => have := LM.out; omega); intro v1 w1 ho hb hg2 hat; have n0_ := Aside0.mk ho; have n1_ := Aside0.mk (HS2.out.grown hg2 (HS2.out.base.trans (hb.mono (by have := HS2.out.old; have := HLT.out.1; omega))) (fun e_ => by have := HR2.out.1 _ e_; have := HLT.out.1; omega) (fun e_ => by have := HR2.out.1 _ e_; have := HLT.out.2; omega)); have n2_ := Aside0.mk (show KeepBut w w1 b none from ⟨Nat.le_trans HK2.out.1 hg2.size, fun i_ hi_ hne_ hr_ => (hb.block i_ hi_).trans (HK2.out.2 i_ hi_ hne_ hr_)⟩); clear HS2 HR2 HK2 hb hg2 hat ho))
            go_roundg k1
            case measure => omega
            case rel => exact ⟨setL va next, li ++ [next], by rw [setL_length]; exact hva, H', n1_, n0_, n2_⟩
          · rw [if_neg hl] at hA
            cases hA

/-! ### impl_newState: function 67 -/
def newState_T : Bool × List (List Nat × List Nat) := (true, [([], []), ([], []), ([1], [1]), ([2], [2]), ([3, 3], [3]), ([0, 4], [0, 4]), ([5], [5]), ([6, 0, 1, 2, 3, 4, 5, 6], [6])])
def newState_B : List Nat := [0, 0, 2, 6, 14, 31, 63, 127]
theorem newState_tab : rtab .any (opsOf Try.f67 1) = newState_T := by kernel_rfl
theorem newState_bits : waitsOk newState_T.2 newState_B = true := by kernel_rfl
set_option maxHeartbeats 4000000 in
set_option maxRecDepth 100000 in
theorem newState_any (vars : Int) (A : Option Addr) (n c : Nat) (w : World) (h0 : 0 ≤ vars) (h1 : vars ≤ 4000) :
    Calls Try.prog 67 #[.agg #[.int .i64 vars, .slice A n c]] w fun e W' => ∃ g b cv, e = .returned (.pointer (some ⟨g, 0, none⟩)) ∧ ST w W' g b vars A n c cv (List.replicate (vars + 1).toNat 0) := by
  obtain ⟨vs, hvs⟩ : ∃ vs, List.replicate (vars + 1).toNat (0 : Int) = vs := ⟨_, rfl⟩
  rw [hvs]
  have HV := Aside0.mk hvs
  have HVL := Aside0.mk (show vs.length = (vars + 1).toNat by rw [← hvs]; simp)
  clear hvs
  have hu_Cnf := Try.underlying30
  have hu_state := Try.underlying112
  have ew : IntKind.i64.wrap (vars + 1) = vars + 1 := IntWalk.i64_in _ (by omega)
  go_enter Try.func67, Try.ntmps67
  have hW : (w.alloc (.cells #[.int .i64 vars, .slice A n c] 30)).heap[w.heap.size]? = some (.cells #[.int .i64 vars, .slice A n c] 30 (0, 0)) := by
    show (w.heap.push _)[w.heap.size]? = _
    simp
  obtain ⟨W1, gb, hW1, hgb, BX, HB1⟩ : ∃ W1 gb, w.alloc (.cells #[.int .i64 vars, .slice A n c] 30) = W1 ∧ w.heap.size = gb ∧ Aside0 (W1.heap[gb]? = some (.cells #[.int .i64 vars, .slice A n c] 30 (0, 0))) ∧ Aside0 (Below w.heap.size w W1) :=
    ⟨_, _, rfl, rfl, ⟨hW⟩, ⟨(Below.refl _ _).alloc (Nat.le_refl _) _⟩⟩
  have HW1 := Aside0.mk hW1
  have HGB := Aside0.mk hgb
  clear hW hW1 hgb
  go_upto_region 1 with fail
  rw [HW1.out, HGB.out]
  clear HW1
  refine start_ (n := 8) (S := fun w' => w'.cell? ⟨gb, 0, none⟩ = some (.int .i64 vars) ∧ w'.cell? ⟨gb, 1, none⟩ = some (.slice A n c)) (ds := []) #[false, false, false, false, false, false, false, false] (by kernel_rfl) rfl rfl ⟨(blk_cell BX.out 0).trans rfl, (blk_cell BX.out 1).trans rfl⟩ (fun hHeld => ?_)
  refine with_tabW newState_tab newState_bits (fun HT_ HW_ => ?_)
  replace BX : Aside0 (W1.drew.heap[gb]? = some (.cells #[.int .i64 vars, .slice A n c] 30 (0, 0))) := ⟨BX.out⟩
  replace HB1 : Aside0 (Below w.heap.size w W1.drew) := ⟨HB1.out.drew⟩
  generalize W1.drew = w20 at BX HB1 hHeld ⊢
  refine pure_ (i := 1) (N := some 4) (v := ?_) (a' := ?_) #[false, true, false, false, false, false, false, false] rfl rfl (any_of HT_.out (by kernel_rfl)) (fun _ _ _ h => h) (Or.inl ⟨by rfl, ?_⟩) ?_ ?_
  rotate_left
  · intro w'
    go_simp
    with_reducible rfl
  rotate_left
  · simp only [Act.put, List.setIfInBounds_toArray, List.set_cons_zero, List.set_cons_succ, i64_w, i32_w]
    rfl
  refine take_ (i := 0) (N := some 3) (v := ?_) (a' := ?_) #[true, true, false, false, false, false, false, false] rfl rfl (take_ofW HT_.out HW_.out (by kernel_rfl)) (fun _ _ _ h => h) (Or.inl ⟨by rfl, ?_⟩) hHeld ?_ ?_
  rotate_left
  · rintro w' ⟨s0, s1⟩
    go_simp
    with_reducible rfl
  rotate_left
  · simp only [Act.put, List.setIfInBounds_toArray, List.set_cons_zero, List.set_cons_succ, i64_w, i32_w]
    rfl
  refine take_ (i := 2) (N := some 5) (v := ?_) (a' := ?_) #[true, true, true, false, false, false, false, false] rfl rfl (take_ofW HT_.out HW_.out (by kernel_rfl)) (fun _ _ _ h => h) (Or.inl ⟨by rfl, ?_⟩) hHeld ?_ ?_
  rotate_left
  · rintro w' ⟨s0, s1⟩
    go_simp
    with_reducible rfl
  rotate_left
  · simp only [Act.put, List.setIfInBounds_toArray, List.set_cons_zero, List.set_cons_succ, i64_w, i32_w]
    rfl
  refine pure_ (i := 3) (N := some 6) (v := ?_) (a' := ?_) #[true, true, true, true, false, false, false, false] rfl rfl (any_of HT_.out (by kernel_rfl)) (fun _ _ _ h => h) (Or.inl ⟨by rfl, ?_⟩) ?_ ?_
  rotate_left
  · intro w'
    go_simp
    with_reducible rfl
  rotate_left
  · simp only [Act.put, List.setIfInBounds_toArray, List.set_cons_zero, List.set_cons_succ, i64_w, i32_w]
    rfl
  refine one_ (i := 4) (N := some 7) #[true, true, true, true, true, false, false, false] rfl rfl (one_of HT_.out (by kernel_rfl)) (by decide) (fun K hK => ?_)
  refine Kd.R_make_step (Kd.int .i64) (w0 := w) w.heap.size 3 (by rfl) (N := 7) rfl 37 (.tmp 6) (.tmp 6) rfl (vars + 1) (by first | rfl | (go_simp; done) | (go_simp; rfl)) (by first | rfl | (go_simp; done) | (go_simp; rfl)) Try.underlying37 (.int .i64 0) 8 info3 rfl (by decide) (by decide) (0 : Int) (ok := fun k => k ≠ gb) (okp := fun _ => False) rfl (fun _ hk => hk.elim) (by have := blk_lt BX.out; omega) (by omega) (by omega) HB1.out (by exact HB1.out.size) ?_
  intro v1 w21 ho hb hg hnew
  obtain ⟨b, cap, ev, hb0, hb1, cells, hcells⟩ := Kd.R_form ho (by simp; omega)
  subst ev
  have n0_ := Aside0.mk (blk_grown BX.out hg (by simp))
  have n1_ := Aside0.mk hb
  have n2_ := Aside0.mk ho
  clear BX HB1 hcells hb hg
  have BX := n0_
  have HB1 := n1_
  clear n0_ n1_ ho hnew
  rw [HV.out] at n2_
  refine hK.out _ _ ⟨(blk_cell BX.out 0).trans rfl, (blk_cell BX.out 1).trans rfl⟩ (fun hHeld => ?_)
  clear hK K
  refine norm_ (a' := ?_) ?_ ?_
  rotate_left
  · show Act.put _ (some 7) _ = _
    simp only [Act.put, List.setIfInBounds_toArray, List.set_cons_zero, List.set_cons_succ, i64_w, i32_w]
    rfl
  refine pure_ (i := 5) (N := some 8) (v := ?_) (a' := ?_) #[true, true, true, true, true, true, false, false] rfl rfl (any_of HT_.out (by kernel_rfl)) (fun _ _ _ h => h) (Or.inl ⟨by rfl, ?_⟩) ?_ ?_
  rotate_left
  · intro w'
    go_simp
    with_reducible rfl
  rotate_left
  · simp only [Act.put, List.setIfInBounds_toArray, List.set_cons_zero, List.set_cons_succ, i64_w, i32_w]
    rfl
  refine one_ (i := 6) (N := some 9) #[true, true, true, true, true, true, true, false] rfl rfl (one_of HT_.out (by kernel_rfl)) (by decide) (fun K hK => ?_)
  refine box_step (by rfl) (N := 9) rfl (cs := #[.int .i64 vars, .slice A n c, .slice (some ⟨b, 0, none⟩) (vars + 1).toNat cap]) (t := 112) ?hr9 ?_
  case hr9 => first | (go_simp; done) | (go_simp; rfl)
  intro g hg w22 hbox hb2
  have n0_ := Aside0.mk (blk_below BX.out hb2)
  have n1_ := Aside0.mk (HB1.out.trans (hb2.mono HB1.out.size))
  have n3_ := Aside0.mk (Kd.R_below n2_.out hb2)
  have n4_ := Aside0.mk (show w22.heap[g]? = some (.cells #[.int .i64 vars, .slice A n c, .slice (some ⟨b, 0, none⟩) vs.length cap] 112 (0, 0)) by rw [HVL.out]; exact hbox)
  have n5_ := Aside0.mk (show w.heap.size ≤ g by rw [hg]; exact HB1.out.size)
  clear BX HB1 n2_ hbox hb2 hg
  refine hK.out _ _ ⟨(blk_cell n0_.out 0).trans rfl, (blk_cell n0_.out 1).trans rfl⟩ (fun hHeld => ?_)
  clear hK K
  refine norm_ (a' := ?_) ?_ ?_
  rotate_left
  · show Act.put _ (some 9) _ = _
    simp only [Act.put, List.setIfInBounds_toArray, List.set_cons_zero, List.set_cons_succ, i64_w, i32_w]
    rfl
  refine pure_ (i := 7) (N := some 2) (v := ?_) (a' := ?_) #[true, true, true, true, true, true, true, true] rfl rfl (any_of HT_.out (by kernel_rfl)) (fun _ _ _ h => h) (Or.inl ⟨by rfl, ?_⟩) ?_ ?_
  rotate_left
  · intro w'
    go_simp
    with_reducible rfl
  rotate_left
  · simp only [Act.put, List.setIfInBounds_toArray, List.set_cons_zero, List.set_cons_succ, i64_w, i32_w]
    rfl
  refine done_ (done_of HT_.out (by kernel_rfl)) ?_
  go_wp2
  go_ret
  exact ⟨g, b, cap, rfl, n1_.out, n5_.out, n4_.out, Kd.R_mono n3_.out (fun _ _ => trivial)⟩

/-! ### impl_Propagate: function 25 -/
theorem within_lit (a lo hi : Int) (w : World) : Calls Try.prog 83 #[.int .i64 a, .int .i64 lo, .int .i64 hi] w fun e w' => e = .returned (.bool (decide (lo ≤ a) && decide (a ≤ hi))) ∧ w' = w := by
  by_cases h : lo ≤ a
  · rw [decide_eq_true h, Bool.true_and]
    go_enter Try.func83, Try.ntmps83
    go_wp2
    go_ret
    exact ⟨rfl, rfl⟩
  · rw [decide_eq_false h, Bool.false_and]
    go_enter Try.func83, Try.ntmps83
    go_wp2
    go_ret
    exact ⟨rfl, rfl⟩
theorem lit_any (x vars : Int) (w : World) : Calls Try.prog 68 #[.int .i64 x, .int .i64 vars] w fun e w' => e = .returned (.bool (litB x vars)) ∧ w' = w := by
  have hw := fun V => within_lit x (wrap64 (-vars)) vars V
  unfold litB
  by_cases h : x = 0
  · rw [decide_eq_false (fun hn => hn h), Bool.false_and]
    subst h
    go_enter Try.func68, Try.ntmps68
    go_wp2
    go_ret
    exact ⟨rfl, rfl⟩
  · rw [decide_eq_true h, Bool.true_and]
    have h2 : (x == 0) = false := beq_eq_false_iff_ne.mpr h
    generalize (decide (wrap64 (-vars) ≤ x) && decide (x ≤ vars)) = b at hw ⊢
    go_enter Try.func68, Try.ntmps68
    go_wp2_with (go_at_call 83; refine (hw _).mono ?_; rintro e w' ⟨rfl, rfl⟩)
    go_ret
    exact ⟨by simp [bne_iff_ne.mpr h], rfl⟩
/-- the values behind some literals that are made true, or a code -/
def stateP (vars : Int) : List Int → List Int → Int × List Int
  | vals, [] => (0, vals)
  | vals, x :: r => if litB x vars = true then (if isL vals (-x) = true then (8, vals) else stateP vars (setL vals x) r) else (5, vals)
/-- what behind them follows -/
def endP (cs : List (List Int)) (k : Nat) (q : Int × List Int) : Option (List Int × Int × Int) := if q.1 = 0 then (propL cs k q.2 []).bind fun t => some (t.2.1, t.2.2, 0) else some ([], 0, q.1)
def impl_Propagate.f (k : Nat) (a0_0 : Int) (l0_1 : List (List Int)) (l1 : List Int) : Option (List Int × Int × Int) :=
  if (l1.length : Int) > 4096 then some ([], 0, 2) else if cnfB a0_0 l0_1 = true then
    (if (l0_1.all fun c => fitL (a0_0 + 1).toNat c) = true then endP l0_1 k (stateP a0_0 (List.replicate (a0_0 + 1).toNat 0) l1) else none)
  else some ([], 0, 1)
theorem impl_Propagate.mono : ∀ a0 a1 a2 k, LeO (impl_Propagate.f k a0 a1 a2) (impl_Propagate.f (k + 1) a0 a1 a2) := by
  intro a0 a1 a2 k r h
  unfold impl_Propagate.f at h ⊢
  by_cases h1 : (a2.length : Int) > 4096
  · rw [if_pos h1] at h ⊢
    exact h
  · rw [if_neg h1] at h ⊢
    by_cases h2 : cnfB a0 a1 = true
    · rw [if_pos h2] at h ⊢
      by_cases h3 : (a1.all fun c => fitL (a0 + 1).toNat c) = true
      · rw [if_pos h3] at h ⊢
        generalize stateP a0 (List.replicate (a0 + 1).toNat 0) a2 = q at h ⊢
        obtain ⟨c, v⟩ := q
        unfold endP at h ⊢
        simp only at h ⊢
        by_cases h4 : c = 0
        · rw [if_pos h4] at h ⊢
          obtain ⟨t, ht, h⟩ := Option.bind_eq_some_iff.1 h
          exact Option.bind_eq_some_iff.2 ⟨t, propL_mono a1 k v [] t ht, h⟩
        · rw [if_neg h4] at h ⊢
          exact h
      · rw [if_neg h3] at h
        cases h
    · rw [if_neg h2] at h ⊢
      exact h
set_option maxHeartbeats 4000000 in
set_option maxRecDepth 100000 in
theorem impl_Propagate.calls (k : Nat) (a0_0 : Int) (A0_1 : Option Addr) (c0_1 : Nat) (l0_1 : List (List Int)) (A1 : Option Addr) (c1 : Nat) (l1 : List Int) (r1 : List Int) (r2 : Int) (r3 : Int) (w : World) (hr0_1 : Kd.C (Kd.slice 3 (Kd.int .i64)) w A0_1 l0_1.length l0_1) (hc0_1 : l0_1.length ≤ c0_1) (hr1 : Kd.C (Kd.int .i64) w A1 l1.length l1) (hc1 : l1.length ≤ c1) (h : impl_Propagate.f k a0_0 l0_1 l1 = some (r1, r2, r3)) :
    Calls Try.prog 25 #[.agg #[.int .i64 a0_0, .slice A0_1 l0_1.length c0_1], .slice A1 l1.length c1] w fun e w' => ∃ v0_ : Value, e = .returned (.tuple #[v0_, .int .i64 r2, .int .i64 r3]) ∧ Kd.R (Kd.int .i64) 3 w' w.heap.size (fun _ => True) v0_ r1 ∧ Below w.heap.size w w' := by
  unfold impl_Propagate.f at h
  have hu_Cnf := Try.underlying30
  have hB1 : Below w.heap.size w (w.alloc (.cells #[.int .i64 a0_0, .slice A0_1 l0_1.length c0_1] 30)) := (Below.refl _ _).alloc (Nat.le_refl _) _
  have hW : (w.alloc (.cells #[.int .i64 a0_0, .slice A0_1 l0_1.length c0_1] 30)).heap[w.heap.size]? = some (.cells #[.int .i64 a0_0, .slice A0_1 l0_1.length c0_1] 30 (0, 0)) := by
    show (w.heap.push _)[w.heap.size]? = _
    simp
  obtain ⟨W1, hW1, BX, HB1⟩ : ∃ W1, w.alloc (.cells #[.int .i64 a0_0, .slice A0_1 l0_1.length c0_1] 30) = W1 ∧ W1.heap[w.heap.size]? = some (.cells #[.int .i64 a0_0, .slice A0_1 l0_1.length c0_1] 30 (0, 0)) ∧ Below w.heap.size w W1 := ⟨_, rfl, hW, hB1⟩
  have hmax : l1.length ≤ 9223372036854775807 := Kd.C_max hr1
  have HC0 := Aside0.mk (Kd.C_below hr0_1 HB1)
  have HC1 := Aside0.mk (Kd.C_below hr1 HB1)
  have HW1 := Aside0.mk hW1
  have HB1' := Aside0.mk HB1
  have HBX := Aside0.mk BX
  have hcf := impl_isCnf.calls a0_0 A0_1 c0_1 l0_1 (cnfB a0_0 l0_1) W1 HC0.out hc0_1 rfl
  have hx0 : W1.cell? ⟨w.heap.size, 0, none⟩ = some (.int .i64 a0_0) := (blk_cell BX 0).trans rfl
  have hx1 : W1.cell? ⟨w.heap.size, 1, none⟩ = some (.slice A0_1 l0_1.length c0_1) := (blk_cell BX 1).trans rfl
  clear hW hB1 hW1 BX HB1 hr0_1 hr1
  by_cases t1 : (l1.length : Int) > 4096
  · rw [if_pos t1] at h
    simp only [Option.some.injEq, Prod.mk.injEq] at h
    obtain ⟨rfl, rfl, rfl⟩ := h
    go_enter Try.func25, Try.ntmps25
    go_wp2
    go_ret3
    exact ⟨_, rfl, Kd.R_nil _ _ _ _ _, by rw [HW1.out]; exact HB1'.out⟩
  · rw [if_neg t1] at h
    by_cases t2 : cnfB a0_0 l0_1 = true
    · rw [if_pos t2] at h
      rw [t2] at hcf
      have ha : 0 ≤ a0_0 ∧ a0_0 ≤ 40 := by
        have h9 := t2
        unfold cnfB at h9
        simp only [Bool.and_eq_true, decide_eq_true_eq] at h9
        exact ⟨h9.1, h9.2.1⟩
      clear t2
      by_cases t3 : (l0_1.all fun c => fitL (a0_0 + 1).toNat c) = true
      · rw [if_pos t3] at h
        have HBW := Aside0.mk HB1'.out
        obtain ⟨vs, hvs⟩ : ∃ vs, List.replicate (a0_0 + 1).toNat (0 : Int) = vs := ⟨_, rfl⟩
        have hvl : vs.length = (a0_0 + 1).toNat := by rw [← hvs]; simp
        have hnew := fun V => newState_any a0_0 A0_1 l0_1.length c0_1 V ha.1 (by omega)
        rw [hvs] at h hnew
        clear hvs
        have HNEW := Aside0.mk hnew
        have HF := Aside0.mk t3
        have H' : Aside0 (endP l0_1 k (stateP a0_0 vs (l1.drop 0)) = some (r1, r2, r3)) := ⟨by rw [List.drop_zero]; exact h⟩
        clear h hnew t3
        have h40 : wrap64 (-a0_0) = -a0_0 := by unfold wrap64; omega
        go_enter Try.func25, Try.ntmps25
        go_upto_region 3 with fail
        rw [HW1.out]
        clear HW1
        go_wp2_with (first
          | (go_at_call 54; refine hcf.mono ?_; rintro e w2 ⟨rfl, hb2⟩; clear hcf; have hx0 := (hb2.cell (World.block_lt_of_cell? W1 _ hx0)).trans hx0; have hx1 := (hb2.cell (World.block_lt_of_cell? W1 _ hx1)).trans hx1; have hnw := HNEW.out w2; have HB2 := Aside0.mk hb2; clear hb2 HNEW)
          | (go_at_call 67; refine hnw.mono ?_; rintro e w3 ⟨g, b, cv, rfl, hS⟩; clear hnw hx0 hx1; have HS := Aside0.mk hS; clear hS))
        have HC2 := Aside0.mk (Kd.C_below HC1.out HB2.out)
        have HC3 := Aside0.mk (Kd.C_below HC0.out HB2.out)
        have HG0 := Aside0.mk ((HB2.out.cell (blk_lt HBX.out)).trans ((blk_cell HBX.out 0).trans (show _ = some (.int .i64 a0_0) from rfl)))
        go_loopg [24] l1.length (fun gg v24 wr => ∃ (kk : Nat) (va : List Int), v24 = .int .i64 kk ∧ kk ≤ l1.length ∧ l1.length - kk ≤ gg ∧ va.length = vs.length ∧ Aside0 (endP l0_1 k (stateP a0_0 va (l1.drop kk)) = some (r1, r2, r3)) ∧ Aside0 (ST w2 wr g b a0_0 A0_1 l0_1.length c0_1 cv va))
        case atStart => exact ⟨0, vs, rfl, Nat.zero_le _, by omega, rfl, H', HS⟩
        case round =>
          clear H' HS
          obtain ⟨kk, va, rfl, hk, hg, hva, HA, HS⟩ := hrel
          by_cases hlt : kk < l1.length
          · have hltz : (kk : Int) < (l1.length : Int) := by omega
            have h0z : (0 : Int) ≤ (kk : Int) := by omega
            obtain ⟨ad, ea, hx⟩ := Kd.at_int HC2.out (kk : Int) h0z hltz
            subst ea
            rw [Int.toNat_natCast] at hx
            have hrd : rd l1 (kk : Int) = l1[kk] := by unfold rd; simp [List.getD, hlt]
            have hA := HA.out
            rw [List.drop_eq_getElem_cons hlt, stateP, ← hrd] at hA
            have ew : IntKind.i64.wrap ((kk : Int) + 1) = ((kk + 1 : Nat) : Int) := IntWalk.i64_in _ (by omega)
            have hx2 := (HS.out.base.cell (World.block_lt_of_cell? w2 _ hx)).trans hx
            have hg0 := (HS.out.base.cell (World.block_lt_of_cell? w2 _ HG0.out)).trans HG0.out
            clear hrd HA hx
            generalize rd l1 (kk : Int) = x at hx2 hA
            have hlit := fun V => lit_any x a0_0 V
            have HBE := Aside0.mk (HB1'.out.trans ((HB2.out.trans (HS.out.base.mono HB2.out.size)).mono HB1'.out.size))
            cases ha1 : litB x a0_0 with
            | false =>
              rw [ha1, if_neg Bool.false_ne_true] at hA
              rw [ha1] at hlit
              unfold endP at hA
              rw [if_neg (show ¬ (5 : Int) = 0 by decide)] at hA
              simp only [Option.some.injEq, Prod.mk.injEq] at hA
              obtain ⟨rfl, rfl, rfl⟩ := hA
              go_wp2_with (go_at_call 68; refine (hlit _).mono ?_; rintro e w' ⟨rfl, rfl⟩)
              go_ret3
              exact ⟨_, rfl, Kd.R_nil _ _ _ _ _, HBE.out⟩
            | true =>
              rw [ha1, if_pos rfl] at hA
              rw [ha1] at hlit
              have hxr : x ≠ 0 ∧ -a0_0 ≤ x ∧ x ≤ a0_0 := by
                simp only [litB, Bool.and_eq_true, decide_eq_true_eq] at ha1
                rw [h40] at ha1
                exact ha1
              have ex : IntKind.i64.wrap (-x) = -x := IntWalk.i64_in _ (by omega)
              have hcall := is_any g va _ cv (-x) wr HS.out.cells.2.2 HS.out.reads (by omega) (by omega)
              cases ha2 : isL va (-x) with
              | true =>
                rw [ha2, if_pos rfl] at hA
                rw [ha2] at hcall
                unfold endP at hA
                rw [if_neg (show ¬ (8 : Int) = 0 by decide)] at hA
                simp only [Option.some.injEq, Prod.mk.injEq] at hA
                obtain ⟨rfl, rfl, rfl⟩ := hA
                go_wp2_with (first
                  | (go_at_call 68; refine (hlit _).mono ?_; rintro e w' ⟨rfl, hq⟩; have hq2 := hq.symm; clear hq; subst hq2)
                  | (go_at_call 69; refine hcall.mono ?_; rintro e w' ⟨rfl, hq⟩; have hq2 := hq.symm; clear hq hcall; subst hq2))
                go_ret3
                exact ⟨_, rfl, Kd.R_nil _ _ _ _ _, HBE.out⟩
              | false =>
                rw [ha2, if_neg Bool.false_ne_true] at hA
                rw [ha2] at hcall
                have H' := Aside0.mk hA
                have hset := set_st g b a0_0 A0_1 l0_1.length c0_1 cv va x w2 wr HS.out (by omega) (by omega)
                have HS2 := Aside0.mk (HS.out.set x)
                clear HS hA
                generalize wr.setCell ⟨b, x.natAbs, none⟩ (.int .i64 (if x < 0 then -1 else 1)) = wr2 at hset HS2
                go_wp2_with (first
                  | (go_at_call 68; refine (hlit _).mono ?_; rintro e w' ⟨rfl, hq⟩; have hq2 := hq.symm; clear hq; subst hq2)
                  | (go_at_call 69; refine hcall.mono ?_; rintro e w' ⟨rfl, hq⟩; have hq2 := hq.symm; clear hq hcall; subst hq2)
                  | (go_at_call 70; refine hset.mono ?_; rintro e w' ⟨rfl, hq⟩; have hq2 := hq.symm; clear hq hset; subst hq2))
                go_roundg (gk - 1)
                case measure => omega
                case rel => exact ⟨kk + 1, setL va x, rfl, by omega, by omega, by rw [setL_length]; exact hva, H', HS2⟩
          · have hA := HA.out
            obtain rfl : kk = l1.length := by omega
            rw [List.drop_length, stateP] at hA
            unfold endP at hA
            rw [if_pos rfl] at hA
            obtain ⟨⟨v2, li, at_⟩, hpr, hA⟩ := Option.bind_eq_some_iff.1 hA
            simp only [Option.some.injEq, Prod.mk.injEq] at hA
            obtain ⟨rfl, rfl, rfl⟩ := hA
            have hprop := propagate_any k g b a0_0 A0_1 c0_1 cv l0_1 va v2 li at_ w2 wr HS.out HC3.out (by rw [hva, hvl]; exact HF.out) (by omega) (by omega) hpr
            have HLE := Aside0.mk (Nat.le_trans HB1'.out.size (Nat.le_trans HB2.out.size HS.out.base.size))
            clear HA hpr
            go_wp2_with (go_at_call 71; refine hprop.mono ?_; rintro e w4 ⟨v, rfl, hR, -, -, -, hb4⟩)
            go_ret3
            exact ⟨_, rfl, Kd.R_lower hR HLE.out, HB1'.out.trans ((HB2.out.trans (hb4.mono HB2.out.size)).mono HB1'.out.size)⟩
      · rw [if_neg t3] at h
        cases h
    · rw [if_neg t2] at h
      simp only [Option.some.injEq, Prod.mk.injEq] at h
      obtain ⟨rfl, rfl, rfl⟩ := h
      rw [Bool.eq_false_iff.2 t2] at hcf
      clear t2
      go_enter Try.func25, Try.ntmps25
      go_upto_region 3 with fail
      rw [HW1.out]
      go_wp2_with (go_at_call 54; refine hcf.mono ?_; rintro e w2 ⟨rfl, hb2⟩)
      go_ret3
      exact ⟨_, rfl, Kd.R_nil _ _ _ _ _, HB1'.out.trans (hb2.mono HB1'.out.size)⟩

/-! ### laws_markIntS: function 27 -/
def laws_markIntS.l0 : Nat → List Int → Int → Int → Option (Int × List Int)
  | 0, _, _, _ => none
  | k + 1, x0, x1, x5 => if x5 < (x0.length : Int) then (if 0 ≤ x5 then (laws_markIntS.l0 k (x0.set (x5 : Int).toNat x1) (wrap64 (x1 + 1)) (wrap64 (x5 + 1))) else (none)) else (some (x1, x0))
def laws_markIntS.f (k : Nat) (l0 : List Int) (a1 : Int) : Option (Int × List Int) := laws_markIntS.l0 k l0 a1 0
theorem laws_markIntS.mono_l : ∀ k, (∀ y0 y1 y2, LeO (laws_markIntS.l0 k y0 y1 y2) (laws_markIntS.l0 (k + 1) y0 y1 y2))
  | 0 => fun _ _ _ r h => by simp [laws_markIntS.l0] at h
  | k + 1 => by
    have ih0 := laws_markIntS.mono_l k
    · intro y0 y1 y2
      unfold laws_markIntS.l0
      repeat' first
      | (with_reducible exact ih0 _ _ _)
      | (with_reducible exact LeO.refl _)
      | (with_reducible exact LeO.none _)
      | (with_reducible refine LeO.ite ?_ ?_)
      | (with_reducible refine LeO.bind ?_ (fun _ => ?_))
      | exact ih0 _ _ _
      | exact LeO.none _
      | refine LeO.ite ?_ ?_
      | refine LeO.bind ?_ (fun _ => ?_)
theorem laws_markIntS.mono : ∀ a0 a1 k, LeO (laws_markIntS.f k a0 a1) (laws_markIntS.f (k + 1) a0 a1) := by
  intro a0 a1 k
  have ih0 := laws_markIntS.mono_l k
  unfold laws_markIntS.f
  repeat' first
      | (with_reducible exact ih0 _ _ _)
      | (with_reducible exact LeO.refl _)
      | (with_reducible exact LeO.none _)
      | (with_reducible refine LeO.ite ?_ ?_)
      | (with_reducible refine LeO.bind ?_ (fun _ => ?_))
      | exact ih0 _ _ _
      | exact LeO.none _
      | refine LeO.ite ?_ ?_
      | refine LeO.bind ?_ (fun _ => ?_)
set_option maxHeartbeats 8000000 in
set_option maxRecDepth 100000 in
theorem laws_markIntS.calls (k : Nat) (P0_ : Nat → Prop) (u9000_ : Value) (l0 : List Int) (a1 : Int) (r1 : Int) (r2 : List Int) (w0 w : World) (hB : Below w0.heap.size w0 w) (ho0 : Kd.R (Kd.int .i64) 3 w w0.heap.size P0_ u9000_ l0) (h : laws_markIntS.f k l0 a1 = some (r1, r2)) :
    Calls Try.prog 27 #[u9000_, .int .i64 a1] w fun e w' => e = .returned (.int .i64 r1) ∧ Kd.R (Kd.int .i64) 3 w' w0.heap.size (fun k_ => (P0_ k_ ∨ w.heap.size ≤ k_)) u9000_ r2 ∧ Below w0.heap.size w0 w' ∧ Kept w w' (fun k_ => P0_ k_) := by
  have HO0 := Aside0.mk (show Kd.R (Kd.int .i64) 3 w w0.heap.size (fun k_ => (P0_ k_ ∨ w.heap.size ≤ k_)) u9000_ l0 from Kd.R_mono ho0 (fun k_ hk => (.inl hk)))
  have HK := Aside0.mk (Kept.refl w (fun k_ => P0_ k_))
  have HW0 := Aside0.mk hB.size
  have HB := Aside0.mk hB
  clear hB
  have H : (laws_markIntS.l0 k l0 a1 0) = some (r1, r2) := h
  clear h
  have H' := Aside0.mk H
  clear H
  go_enter Try.func27, Try.ntmps27
  go_wp2
  go_loopg [1, 5] k (fun kq v1 v5 w' => ∃ (x0_1 : List Int) (x1_1 : Int) (x5_1 : Int), v1 = .int .i64 x1_1 ∧ v5 = .int .i64 x5_1 ∧ Aside0 (laws_markIntS.l0 kq x0_1 x1_1 x5_1 = some (r1, r2)) ∧ Aside0 (kq ≤ k) ∧ Aside0 (Kd.R (Kd.int .i64) 3 w' w0.heap.size (fun k_ => (P0_ k_ ∨ w.heap.size ≤ k_)) u9000_ x0_1) ∧ Aside0 (Kept w w' (fun k_ => P0_ k_)) ∧ Aside0 (Below w0.heap.size w0 w'))
  case atStart => exact ⟨(l0), (a1), (0), (by first | rfl | (simp; done) | (simp [*]; done)), (by first | rfl | (simp; done) | (simp [*]; done)), H', ⟨Nat.le_refl _⟩, ⟨by (with_reducible repeat (first | apply Kd.R_alloc | apply Kd.R_drewN | apply Kd.R_drew)); exact HO0.out⟩, ⟨by repeat (first | (with_reducible first | exact HK.out | apply Kept.alloc | apply Kept.drewN | apply Kept.drew) | exact HK.out)⟩, ⟨by repeat (first | (with_reducible first | exact HB.out | apply below_alloc | apply pw_below_drewN | apply below_drew1) | exact HB.out)⟩⟩
  case round =>
    clear H'
    try clear c2
    try clear p2
    obtain ⟨x0_1, x1_1, x5_1, rfl, rfl, HA, HK1, HO_0, HK, HB⟩ := hrel
    cases gk with
    | zero => exact absurd HA.out (by simp [laws_markIntS.l0])
    | succ k1 =>
      have H := HA.out
      clear HA
      simp only [laws_markIntS.l0] at H
      by_cases c3 : x5_1 < (x0_1.length : Int)
      · rw [if_pos c3] at H
        have c3b0 : decide (x5_1 < (x0_1.length : Int)) = true := decide_eq_true c3
        clear c3
        by_cases c4 : 0 ≤ x5_1
        · rw [if_pos c4] at H
          have c4b0 : decide (0 ≤ x5_1) = true := decide_eq_true c4
          clear c4
          obtain ⟨y187, hy187⟩ : ∃ y_ : List Int, y_ = (x0_1.set (x5_1 : Int).toNat x1_1) := ⟨_, rfl⟩
          replace H : (laws_markIntS.l0 k1 y187 (wrap64 (x1_1 + 1)) (wrap64 (x5_1 + 1))) = some (r1, r2) := by first | (rw [hy187]; with_reducible exact H) | (have H2_ := (Option.bind_some _ _).symm.trans H; rw [hy187]; with_reducible exact H2_) | (have H2_ := (Option.bind_some _ _).symm.trans H; with_reducible exact H2_) | with_reducible exact H | (rw [hy187]; exact H) | exact H
          have Ny187 := Aside0.mk hy187
          clear hy187
          have H' := Aside0.mk H
          clear H
          obtain ⟨Ao6, co6, eo6⟩ := Kd.R_slice HO_0.out
          subst eo6
          have p5 : 0 ≤ (x5_1 : Int) := of_decide_eq_true (by first | (with_reducible assumption) | assumption)
          have q5 : (x5_1 : Int) < ((x0_1.length : Int) : Int) := of_decide_eq_true (by first | (with_reducible assumption) | assumption)
          obtain ⟨go5, co5, eo5, gb5, gl5, cl5, HG5⟩ := Kd.R_form HO_0.out (by omega)
          (first | cases eo5 | (injection eo5 with ea_ en_ ec_; (first | subst ea_ | (injection ea_ with ea_; subst ea_)); subst ec_; clear en_))
          have GB5 := Aside0.mk gb5
          have GG5 := Aside0.mk HG5
          clear gb5 gl5 HG5
          have HMgo5 := Aside0.mk (show (P0_ go5 ∨ w.heap.size ≤ go5) from (HO_0.out.1 _ rfl))
          obtain ⟨hx5_0, hf5_0⟩ := Kd.R_celln 0 HO_0.out (x5_1 : Int) p5 q5
          replace p5 := eq_true p5
          replace q5 := eq_true q5
          have HP7 := Kd.R_putg HO_0.out (x5_1 : Int) x1_1
          go_wp2_with (first | ((with_reducible refine gate_store (t := 3) (p := 15) rfl ?_); refine store_event (t := 3) (p := 15) (v := ?vo_w8) (w1 := (wr.setCell ⟨go5, (x5_1 : Int).toNat, none⟩ (.int .i64 x1_1))) ?hg ?ho ?hn ?hr ?_; (case ho => rfl); (case hg => rfl); (case hn => rfl); (case hr => first | (go_simp; done) | (go_simp; rfl)); intro w8 hw; have hg : wr.grownBy w8 (some go5) := (by rw [hw]; exact HP7.2); have hp_ : Kd.R (Kd.int .i64) 3 w8 w0.heap.size (fun k_ => (P0_ k_ ∨ w.heap.size ≤ k_)) (.slice (some ⟨go5, 0, none⟩) x0_1.length co6) y187 := (by rw [hw, Ny187.out]; exact HP7.1); clear HP7; have n0_ := Aside0.mk (hp_); have n1_ := Aside0.mk ((by rw [hw]; exact below_set (HB.out) GB5.out : Below w0.heap.size w0 w8)); have n2_ := Aside0.mk (Kept.of_grown (S := (fun k_ => P0_ k_)) hg (by repeat (first | (with_reducible first | exact HK.out | apply Kept.alloc | apply Kept.drewN | apply Kept.drew) | exact HK.out)) (fun k_ e_ => (HO_0.out.1 k_ e_))); clear HO_0; clear HB; clear HK; have HO_0 := n0_; have HB := n1_; have HK := n2_; clear n0_ n1_ n2_; clear hg hw hp_))
          go_roundg k1
          case measure => have := HK1.out; omega
          case rel => exact ⟨(y187), (wrap64 (x1_1 + 1)), (wrap64 (x5_1 + 1)), (by first | rfl | (simp; done) | (simp [*]; done)), (by first | rfl | (simp; done) | (simp [*]; done)), H', ⟨by have := HK1.out; omega⟩, ⟨by (with_reducible repeat (first | apply Kd.R_alloc | apply Kd.R_drewN | apply Kd.R_drew)); exact HO_0.out⟩, ⟨by repeat (first | (with_reducible first | exact HK.out | apply Kept.alloc | apply Kept.drewN | apply Kept.drew) | exact HK.out)⟩, ⟨by repeat (first | (with_reducible first | exact HB.out | apply below_alloc | apply pw_below_drewN | apply below_drew1) | exact HB.out)⟩⟩
        · rw [if_neg c4] at H
          exact absurd H (by simp)
      · rw [if_neg c3] at H
        have c3b0 : decide (x5_1 < (x0_1.length : Int)) = false := decide_eq_false c3
        clear c3
        simp only [Option.some.injEq, Prod.mk.injEq] at H
        obtain ⟨rfl, rfl⟩ := H
        obtain ⟨Ao9, co9, eo9⟩ := Kd.R_slice HO_0.out
        subst eo9
        go_wp2
        go_ret
        exact ⟨by first | rfl | (simp [errW_none, errW_some] <;> rfl) | (simp [*, errW_none, errW_some] <;> rfl), by (with_reducible repeat (first | apply Kd.R_alloc | apply Kd.R_drewN | apply Kd.R_drew)); exact HO_0.out, by repeat (first | (with_reducible first | exact HB.out | apply below_alloc | apply pw_below_drewN | apply below_drew1) | exact HB.out), by repeat (first | (with_reducible first | exact HK.out | apply Kept.alloc | apply Kept.drewN | apply Kept.drew) | exact HK.out)⟩

end Go.Proofs.Ytelfahcjeldliaa.PFnExactPropagate
