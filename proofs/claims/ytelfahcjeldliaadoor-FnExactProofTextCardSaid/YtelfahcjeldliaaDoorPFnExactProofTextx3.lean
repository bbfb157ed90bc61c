/- WRITTEN BY A PROGRAM OF THIS SESSION (wip/xprint) OVER THE KIT's PRINT, FOR THIS CLAIM: for Go functions that the law reaches, one Lean function each and the proof that Go's call comes to its answer. No conditions but those that each theorem names. -/
import Derived.Test.YtelfahcjeldliaaDoorPFnExactProofTextx0
import Derived.Test.YtelfahcjeldliaaDoorPFnExactProofTextx1
import Derived.Test.YtelfahcjeldliaaDoorPFnExactProofTextx2
namespace Go.Proofs.YtelfahcjeldliaaDoor.PFnExactProofText
open Go.RowKit Go.Proofs.YtelfahcjeldliaaDoorW.PrintWords Go.Proofs.YtelfahcjeldliaaDoorW.PrintLast Go.Proofs.YtelfahcjeldliaaDoorW.PrintMore
attribute [local go_sem] max2_int min2_int max_two min_two max_three min_three max_four min_four   -- for this text's walks alone
set_option linter.unusedVariables false
set_option linter.unusedSimpArgs false

-- NOT PRINTED: function 52 (slices_IndexFunc_int_int)

/-! ### slices_ContainsFunc_int_int: function 46 -/
/-- one of the first n places at which p holds -/
def anyI (p : Nat → Bool) : Nat → Bool
  | 0 => false
  | n + 1 => anyI p n || p n
theorem anyI_none {p : Nat → Bool} : ∀ {n : Nat}, (∀ j, j < n → p j = false) → anyI p n = false
  | 0, _ => rfl
  | n + 1, h => by rw [anyI, anyI_none (fun j hj => h j (by omega)), h n (by omega)]; rfl
theorem anyI_some {p : Nat → Bool} : ∀ {n k : Nat}, k < n → p k = true → anyI p n = true
  | 0, _, h, _ => by omega
  | n + 1, k, h, hp => by
    rw [anyI]
    by_cases e : k = n
    · subst e; rw [hp]; simp
    · rw [anyI_some (show k < n by omega) hp]; simp
theorem anyI_list {α : Type} (q : α → Bool) (d : α) (p : Nat → Bool) : ∀ (l : List α), (∀ i, i < l.length → p i = q (l.getD i d)) → anyI p l.length = l.any q := by
  intro l h
  cases hq : l.any q with
  | true =>
    obtain ⟨x, hx, hqx⟩ := List.any_eq_true.1 hq
    obtain ⟨i, hi, rfl⟩ := List.mem_iff_getElem.1 hx
    exact anyI_some hi (by rw [h i hi]; simpa [List.getD, hi] using hqx)
  | false =>
    refine anyI_none (fun j hj => ?_)
    rw [h j hj]
    have := List.any_eq_false.1 hq (l.getD j d) (by simp [List.getD, hj])
    simpa using this
set_option maxHeartbeats 4000000 in
theorem idxInt (p : Nat → Bool) (V : Nat → Value) (g : Nat) (lb : Array Value) (eg : ∀ args w, (callFunc g args).run Tryd.prog w = .ok (.enter g args) w) (A : Option Addr) (n c : Nat) (w : World) (hn : n ≤ 9223372036854775807)
    (hc : 0 < n → ∃ ad, A = some ad ∧ ∀ i, i < n → w.cell? (ad.add i) = some (V i))
    (hp : ∀ i, i < n → ∀ W, Below w.heap.size w W → Calls Tryd.prog g (#[V i] ++ lb) W fun e W' => e = .returned (.bool (p i)) ∧ Below W.heap.size W W') :
    Calls Tryd.prog 52 #[.slice A n c, .func (.func g) #[] lb] w fun e w' => (∃ r : Int, e = .returned (.int .i64 r) ∧ decide (0 ≤ r) = anyI p n) ∧ Below w.heap.size w w' := by
  have HP := Aside0.mk hp
  have HC := Aside0.mk hc
  clear hp hc
  go_enter Tryd.func52, Tryd.ntmps52
  go_wp2
  go_loopg [5, 8] n (fun gg _ s8 wr => ∃ kk : Nat, kk ≤ n ∧ n - kk ≤ gg ∧ s8 = .int .i64 kk ∧ Aside0 (Below w.heap.size w wr) ∧ Aside0 (∀ j, j < kk → p j = false))
  case atStart => exact ⟨0, Nat.zero_le _, by omega, rfl, ⟨Below.refl _ _⟩, ⟨fun j hj => absurd hj (Nat.not_lt_zero _)⟩⟩
  case round =>
    obtain ⟨kk, hkk, hg, rfl, HB, HN⟩ := hrel
    by_cases hlt : kk < n
    · have hltz : (kk : Int) < (n : Int) := by omega
      obtain ⟨ad, ea, hcell0⟩ := HC.out (by omega)
      have hcell := (HB.out.cell (World.block_lt_of_cell? w _ (hcell0 kk hlt))).trans (hcell0 kk hlt)
      clear hcell0
      cases ea
      have hcall := HP.out kk hlt _ HB.out
      cases hq : p kk with
      | true =>
        rw [hq] at hcall
        have HQ := Aside0.mk hq
        clear hq
        go_wp2_with (go_at_fn g; refine hcall.mono ?_; rintro e w' ⟨rfl, hb⟩)
        go_ret
        refine ⟨⟨kk, rfl, ?_⟩, HB.out.trans (hb.mono HB.out.size)⟩
        rw [anyI_some hlt HQ.out, decide_eq_true (by omega)]
      | false =>
        rw [hq] at hcall
        have HQ := Aside0.mk hq
        clear hq
        go_wp2_with (go_at_fn g; refine hcall.mono ?_; rintro e w' ⟨rfl, hb⟩)
        go_roundg (n - (kk + 1))
        case measure => omega
        case rel =>
          refine ⟨kk + 1, by omega, by omega, by go_num, ⟨HB.out.trans (hb.mono HB.out.size)⟩, ⟨fun j hj => ?_⟩⟩
          by_cases e : j = kk
          · subst e
            exact HQ.out
          · exact HN.out j (by omega)
    · have hltz : ¬ (kk : Int) < (n : Int) := by omega
      have : kk = n := by omega
      subst this
      go_wp2
      go_ret
      refine ⟨⟨-1, rfl, ?_⟩, HB.out⟩
      rw [anyI_none HN.out]
      rfl
set_option maxHeartbeats 4000000 in
theorem anyInt (p : Nat → Bool) (V : Nat → Value) (g : Nat) (lb : Array Value) (eg : ∀ args w, (callFunc g args).run Tryd.prog w = .ok (.enter g args) w) (A : Option Addr) (n c : Nat) (w : World) (hn : n ≤ 9223372036854775807)
    (hc : 0 < n → ∃ ad, A = some ad ∧ ∀ i, i < n → w.cell? (ad.add i) = some (V i))
    (hp : ∀ i, i < n → ∀ W, Below w.heap.size w W → Calls Tryd.prog g (#[V i] ++ lb) W fun e W' => e = .returned (.bool (p i)) ∧ Below W.heap.size W W') :
    Calls Tryd.prog 46 #[.slice A n c, .func (.func g) #[] lb] w fun e w' => e = .returned (.bool (anyI p n)) ∧ Below w.heap.size w w' := by
  have hcall := idxInt p V g lb eg A n c w hn hc hp
  clear hp hc
  go_enter Tryd.func46, Tryd.ntmps46
  go_wp2_with (go_at_call 52; refine hcall.mono ?_; rintro e w' ⟨⟨r, rfl, hr⟩, hb⟩)
  go_ret
  exact ⟨by first | (rw [← hr]; rfl) | (rw [← hr]; simp), hb⟩

/-- over a row of numbers that is read -/
theorem anyIntL (q : Int → Bool) (g : Nat) (lb : Array Value) (eg : ∀ args w, (callFunc g args).run Tryd.prog w = .ok (.enter g args) w) (A : Option Addr) (l : List Int) (c : Nat) (w : World) (hr : Kd.C (Kd.int .i64) w A l.length l)
    (hp : ∀ x W, Below w.heap.size w W → Calls Tryd.prog g (#[.int .i64 x] ++ lb) W fun e W' => e = .returned (.bool (q x)) ∧ Below W.heap.size W W') :
    Calls Tryd.prog 46 #[.slice A l.length c, .func (.func g) #[] lb] w fun e w' => e = .returned (.bool (l.any q)) ∧ Below w.heap.size w w' := by
  have h := anyInt (fun i => q (l.getD i 0)) (fun i => .int .i64 (l.getD i 0)) g lb eg A l.length c w hr.2.1
    (fun hn => by
      obtain ⟨ad, ea, _⟩ := hr.2.2 hn
      refine ⟨ad, ea, fun i hi => ?_⟩
      obtain ⟨ad', ea', hx⟩ := Kd.at_int hr (i : Int) (by omega) (by omega)
      cases ea
      cases ea'
      exact hx)
    (fun i hi W hb => hp _ W hb)
  rwa [anyI_list q 0 _ l (fun i _ => rfl)] at h

/-- over a row of numbers that is read, its members alone -/
theorem anyIntL' (q : Int → Bool) (g : Nat) (lb : Array Value) (eg : ∀ args w, (callFunc g args).run Tryd.prog w = .ok (.enter g args) w) (A : Option Addr) (l : List Int) (c : Nat) (w : World) (hr : Kd.C (Kd.int .i64) w A l.length l)
    (hp : ∀ x, x ∈ l → ∀ W, Below w.heap.size w W → Calls Tryd.prog g (#[.int .i64 x] ++ lb) W fun e W' => e = .returned (.bool (q x)) ∧ Below W.heap.size W W') :
    Calls Tryd.prog 46 #[.slice A l.length c, .func (.func g) #[] lb] w fun e w' => e = .returned (.bool (l.any q)) ∧ Below w.heap.size w w' := by
  have h := anyInt (fun i => q (l.getD i 0)) (fun i => .int .i64 (l.getD i 0)) g lb eg A l.length c w hr.2.1
    (fun hn => by
      obtain ⟨ad, ea, _⟩ := hr.2.2 hn
      refine ⟨ad, ea, fun i hi => ?_⟩
      obtain ⟨ad', ea', hx⟩ := Kd.at_int hr (i : Int) (by omega) (by omega)
      cases ea
      cases ea'
      exact hx)
    (fun i hi W hb => hp _ (by simp [List.getD, hi]) W hb)
  rwa [anyI_list q 0 _ l (fun i _ => rfl)] at h

/-! ### impl_within: function 36 -/
def impl_within.f (a0 : Int) (a1 : Int) (a2 : Int) : Option (Bool) := if a0 ≥ a1 then (some (decide (a0 ≤ a2))) else (some false)
set_option maxHeartbeats 8000000 in
set_option maxRecDepth 100000 in
theorem impl_within.calls (a0 : Int) (a1 : Int) (a2 : Int) (r : Bool) (w : World) (h : impl_within.f a0 a1 a2 = some r) :
    Calls Tryd.prog 36 #[.int .i64 a0, .int .i64 a1, .int .i64 a2] w fun e w' => e = .returned (.bool r) ∧ Drawn0 w w' := by
  have H : (if a0 ≥ a1 then (some (decide (a0 ≤ a2))) else (some false)) = some r := h
  clear h
  by_cases c4 : a0 ≥ a1
  · rw [if_pos c4] at H
    have c4b0 : decide (a1 ≤ a0) = true := decide_eq_true c4
    clear c4
    obtain rfl := Option.some.inj H
    go_enter Tryd.func36, Tryd.ntmps36
    go_wp2
    go_ret
    exact ⟨by first | rfl | (simp; done) | (simp [*]; done), by repeat (first | exact Drawn0.refl _ | apply Drawn0.step)⟩
  · rw [if_neg c4] at H
    have c4b0 : decide (a1 ≤ a0) = false := decide_eq_false c4
    clear c4
    obtain rfl := Option.some.inj H
    go_enter Tryd.func36, Tryd.ntmps36
    go_wp2
    go_ret
    exact ⟨by first | rfl | (simp; done) | (simp [*]; done), by repeat (first | exact Drawn0.refl _ | apply Drawn0.step)⟩

/-! ### impl_isLiteral: function 48 -/
def impl_isLiteral.f (a0 : Int) (a1 : Int) : Option (Bool) := if a0 = 0 then (some false) else ((impl_within.f a0 (wrap64 (-a1)) a1).bind fun t118 => (some t118))
set_option maxHeartbeats 8000000 in
set_option maxRecDepth 100000 in
theorem impl_isLiteral.calls (a0 : Int) (a1 : Int) (r : Bool) (w : World) (h : impl_isLiteral.f a0 a1 = some r) :
    Calls Tryd.prog 48 #[.int .i64 a0, .int .i64 a1] w fun e w' => e = .returned (.bool r) ∧ Drawn0 w w' := by
  have H : (if a0 = 0 then (some false) else ((impl_within.f a0 (wrap64 (-a1)) a1).bind fun t118 => (some t118))) = some r := h
  clear h
  by_cases c3 : a0 = 0
  · rw [if_pos c3] at H
    have c3b0 : (a0 == 0) = true := beq_iff_eq.mpr c3
    have c3b1 : (a0 != 0) = false := bne_eq_false_iff_eq.mpr c3
    clear c3
    obtain rfl := Option.some.inj H
    go_enter Tryd.func48, Tryd.ntmps48
    go_wp2
    go_ret
    exact ⟨by first | rfl | (simp; done) | (simp [*]; done), by repeat (first | exact Drawn0.refl _ | apply Drawn0.step)⟩
  · rw [if_neg c3] at H
    have c3b0 : (a0 == 0) = false := beq_eq_false_iff_ne.mpr c3
    have c3b1 : (a0 != 0) = true := bne_iff_ne.mpr c3
    replace H := Option.bind_eq_some_iff.mp H
    obtain ⟨t118, A40, H⟩ := H
    replace H : (some t118) = some r := H
    have A4 := Aside0.mk A40
    clear A40
    obtain rfl := Option.some.inj H
    go_enter Tryd.func48, Tryd.ntmps48
    go_wp2_with (first | (go_at_call 36; (with_reducible refine (impl_within.calls a0 (wrap64 (-a1)) a1 t118 _ A4.out).mono ?_); rintro e w' ⟨rfl, ⟨nd, rfl⟩⟩))
    go_ret
    exact ⟨by first | rfl | (simp; done) | (simp [*]; done), by repeat (first | exact Drawn0.refl _ | apply Drawn0.step)⟩

/-! ### impl_isClause: function 39 -/
/-- a literal of so many variables -/
def litB (x vars : Int) : Bool := decide (x ≠ 0) && (decide (wrap64 (-vars) ≤ x) && decide (x ≤ vars))
/-- a clause of so many variables -/
def clauseB (c : List Int) (vars : Int) : Bool := decide (c.length ≤ 12) && !(c.any fun x => !(litB x vars))
theorem lit_is (x vars : Int) : impl_isLiteral.f x vars = some (litB x vars) := by
  unfold impl_isLiteral.f impl_within.f litB
  by_cases h : x = 0
  · simp [h]
  · by_cases h2 : wrap64 (-vars) ≤ x <;> simp [h, h2]
set_option maxHeartbeats 4000000 in
set_option maxRecDepth 100000 in
theorem isClause_fn (x vars : Int) (B : Nat) (W : World) (hB : W.cell? ⟨B, 0, none⟩ = some (.int .i64 vars)) :
    Calls Tryd.prog 47 #[.int .i64 x, .pointer (some ⟨B, 0, none⟩)] W fun e W' => e = .returned (.bool (!(litB x vars))) ∧ Below W.heap.size W W' := by
  have hcall := fun V => impl_isLiteral.calls x vars _ V (lit_is x vars)
  generalize litB x vars = b at hcall ⊢
  go_enter Tryd.func47, Tryd.ntmps47
  go_wp2_with (go_at_call 48; refine (hcall _).mono ?_; rintro e w' ⟨rfl, hd⟩)
  go_ret
  exact ⟨rfl, hd.below⟩
def impl_isClause.f (l0 : List Int) (a1 : Int) : Option Bool := some (clauseB l0 a1)
set_option maxHeartbeats 4000000 in
set_option maxRecDepth 100000 in
theorem impl_isClause.calls (A0 : Option Addr) (c0 : Nat) (l0 : List Int) (a1 : Int) (r : Bool) (w : World) (hr0 : Kd.C (Kd.int .i64) w A0 l0.length l0) (hc0 : l0.length ≤ c0) (h : impl_isClause.f l0 a1 = some r) :
    Calls Tryd.prog 39 #[.slice A0 l0.length c0, .int .i64 a1] w fun e w' => e = .returned (.bool r) ∧ Below w.heap.size w w' := by
  obtain rfl : clauseB l0 a1 = r := Option.some.inj h
  clear h
  unfold clauseB
  have hbox : (w.alloc (.cells #[.int .i64 a1] 3)).cell? ⟨w.heap.size, 0, none⟩ = some (.int .i64 a1) := by simp
  have hB0 : Below w.heap.size w (w.alloc (.cells #[.int .i64 a1] 3)) := (Below.refl _ _).alloc (Nat.le_refl _) _
  have hcon := anyIntL (fun x => !(litB x a1)) 47 #[.pointer (some ⟨w.heap.size, 0, none⟩)] (enters_of Tryd.func47 (by kernel_rfl) rfl) A0 l0 c0 (w.alloc (.cells #[.int .i64 a1] 3)) (Kd.C_below hr0 hB0)
    (fun x W hb => isClause_fn _ _ _ _ ((hb.cell (p := ⟨w.heap.size, 0, none⟩) (by simp)).trans hbox))
  generalize (l0.any fun x => !(litB x a1)) = b at hcon ⊢
  clear hbox hr0
  by_cases hle : l0.length ≤ 12
  · rw [decide_eq_true hle, Bool.true_and]
    have hle2 : decide (l0.length ≤ 12) = true := decide_eq_true hle
    go_enter Tryd.func39, Tryd.ntmps39
    go_wp2_with (go_at_call 46; refine hcon.mono ?_; rintro e w' ⟨rfl, hb⟩)
    go_ret
    exact ⟨rfl, hB0.trans (hb.mono hB0.size)⟩
  · rw [decide_eq_false hle, Bool.false_and]
    have hle2 : decide (l0.length ≤ 12) = false := decide_eq_false hle
    have hle3 : 12 < l0.length := by omega
    clear hcon
    go_enter Tryd.func39, Tryd.ntmps39
    go_wp2
    go_ret
    exact ⟨rfl, hB0⟩

/-! ### impl_clauseText: function 22 -/
theorem sB_lit (x : Int) : sB (Lib.itoa x) ++ (⟨#[32]⟩ : ByteArray) = sB (litT x) := by
  rw [show (⟨#[32]⟩ : ByteArray) = sB [32] from rfl, sB_add]; rfl
theorem rd_of (l : List Int) (kk : Nat) (h : kk < l.length) : rd l (kk : Int) = l[kk] := by
  unfold rd; simp [List.getD, h]
theorem itoa_sB (n : Int) (w : World) (hT : Tab w) (h0 : -9223372036854775808 ≤ n) (h1 : n ≤ 9223372036854775807) :
    Calls Tryd.prog 21 #[.int .i64 n] w fun e w' => e = .returned (.string (sB (Lib.itoa n))) ∧ Below w.heap.size w w' := itoa_calls n w hT h0 h1
set_option maxHeartbeats 2000000 in
set_option maxRecDepth 100000 in
theorem impl_clauseText.calls (A0 : Option Addr) (c0 : Nat) (l0 : List Int) (w : World) (hT : Tab w) (hr0 : Kd.C (Kd.int .i64) w A0 l0.length l0) (hc0 : l0.length ≤ c0) (hs : ∀ x ∈ l0, smallI x) (hl : l0.length ≤ 1000000) :
    Calls Tryd.prog 22 #[.slice A0 l0.length c0] w fun e w' => e = .returned (.string (sB (clauseT l0))) ∧ Below w.heap.size w w' := by
  have HR0 := Aside0.mk hr0
  have HT := Aside0.mk hT
  have HS := Aside0.mk hs
  have HL := Aside0.mk hl
  clear hr0 hT hs hl
  have hca := fun W n H h0 h1 => itoa_sB n W H h0 h1
  go_enter Tryd.func22, Tryd.ntmps22
  go_wp2
  go_loopg [3, 8] l0.length (fun gg v3 v8 wr => ∃ (kk : Nat), v3 = .string (sB ((l0.take kk).flatMap litT)) ∧ v8 = .int .i64 kk ∧ kk ≤ l0.length ∧ l0.length - kk ≤ gg ∧ Aside0 (Below w.heap.size w wr))
  case atStart => exact ⟨0, rfl, rfl, Nat.zero_le _, by omega, ⟨Below.refl _ _⟩⟩
  case round =>
    obtain ⟨kk, rfl, rfl, hk, hg, HB⟩ := hrel
    by_cases hlt : kk < l0.length
    · have hltz : (kk : Int) < (l0.length : Int) := by omega
      have h0z : (0 : Int) ≤ (kk : Int) := by omega
      obtain ⟨ad, ea, hx⟩ := Kd.at_int (Kd.C_below HR0.out HB.out) (kk : Int) h0z hltz
      subst ea
      rw [rd_of l0 kk hlt, Int.toNat_natCast] at hx
      have hsm := HS.out _ (List.getElem_mem hlt)
      have HF := Aside0.mk (flat_snoc litT l0 kk _ (List.getElem?_eq_getElem hlt))
      have HN := Aside0.mk (flat_le litT 22 (l0.take kk) (fun x hx => litT_le (HS.out x (List.mem_of_mem_take hx))))
      have HN2 := Aside0.mk (litT_le hsm)
      generalize l0[kk] = x at hx hsm HF HN2
      have ew : IntKind.i64.wrap ((kk : Int) + 1) = ((kk + 1 : Nat) : Int) := IntWalk.i64_in _ (by have := HL.out; omega)
      have hcall := hca wr x (tab_below HT.out HB.out) (by have := hsm.1; omega) (by have := hsm.2; omega)
      obtain ⟨acc, hacc⟩ : ∃ acc, (l0.take kk).flatMap litT = acc := ⟨_, rfl⟩
      rw [hacc] at HF HN ⊢
      have n1 : (sB (Lib.itoa x)).size + 1 ≤ 9223372036854775807 := by have := HN2.out; simp only [litT, List.length_append, List.length_cons, List.length_nil] at this; rw [sB_size]; omega
      have n2 : (sB acc).size + (sB (litT x)).size ≤ 9223372036854775807 := by have := HN2.out; have := HN.out; have := HL.out; rw [List.length_take] at *; rw [sB_size, sB_size]; have : 22 * min kk l0.length ≤ 22 * 1000000 := Nat.mul_le_mul_left _ (by omega); omega
      have e1 := sB_lit x
      have e2 := sB_add acc (litT x)
      clear hacc hsm
      go_wp2_with (go_at_call 21; refine hcall.mono ?_; rintro e w2 ⟨rfl, hb⟩; clear hcall; have HB2 := Aside0.mk (HB.out.trans (hb.mono HB.out.size)); clear hb)
      go_roundg (gk - 1)
      case measure => omega
      case rel => exact ⟨kk + 1, by rw [HF.out], rfl, by omega, by omega, HB2⟩
    · obtain rfl : kk = l0.length := by omega
      have hn := flat_le litT 22 l0 (fun x hx => litT_le (HS.out x hx))
      rw [List.take_length]
      obtain ⟨acc, hacc⟩ : ∃ acc, l0.flatMap litT = acc := ⟨_, rfl⟩
      rw [hacc] at hn ⊢
      have n1 : (sB acc).size + 2 ≤ 9223372036854775807 := by rw [sB_size]; have := HL.out; omega
      have he : sB acc ++ (⟨#[48, 10]⟩ : ByteArray) = sB (clauseT l0) := by rw [show (⟨#[48, 10]⟩ : ByteArray) = sB [48, 10] from rfl, sB_add, clauseT, hacc]
      clear hn hacc
      go_wp2
      go_ret
      exact ⟨rfl, HB.out⟩
theorem lit_small {x v : Int} (h : litB x v = true) (h0 : 0 ≤ v) (h1 : v ≤ 40) : smallI x := by
  unfold litB at h
  rw [wr64 (by omega) (by omega)] at h
  simp only [Bool.and_eq_true, decide_eq_true_eq] at h
  exact ⟨by omega, by omega⟩
theorem clause_small {c : List Int} {v : Int} (h : clauseB c v = true) (h0 : 0 ≤ v) (h1 : v ≤ 40) : c.length ≤ 12 ∧ ∀ x ∈ c, smallI x := by
  unfold clauseB at h
  simp only [Bool.and_eq_true, decide_eq_true_eq, Bool.not_eq_true', List.any_eq_false] at h
  exact ⟨h.1, fun x hx => lit_small (by have := h.2 x hx; simpa using this) h0 h1⟩

/-! ### strings_Builder_String: function 23 -/
theorem string_cut : True := trivial

-- NOT PRINTED: function 51 (impl_Step_51)

/-! ### impl_Step_43: function 43 -/
set_option maxHeartbeats 4000000 in
set_option maxRecDepth 100000 in
/-- slices.IndexFunc over a row of structs, with a predicate that may change what the invariant allows. -/
theorem idx61 (I : Nat → World → Prop) (p : Nat → Bool) (l : List (S61)) (g : Nat) (lb : Array Value) (eg : ∀ args w, (callFunc g args).run Tryd.prog w = .ok (.enter g args) w) (A : Option Addr) (c : Nat) (w : World) (hn : l.length ≤ 9223372036854775807) (h0 : I 0 w)
    (w0 : World) (hd : Kd.C k61 w0 A l.length l) (hB : ∀ i W, I i W → Below w0.heap.size w0 W)
    (hp : ∀ i, i < l.length → (∀ j, j < i → p j = false) → ∀ W, I i W → ∀ A2 c2, Kd.C (Kd.int .i64) w0 A2 (rd_T61 l (i : Int)).f1.length (rd_T61 l (i : Int)).f1 → (rd_T61 l (i : Int)).f1.length ≤ c2 →
      Calls Tryd.prog g (#[.agg #[.bool (rd_T61 l (i : Int)).f0, .slice A2 (rd_T61 l (i : Int)).f1.length c2]] ++ lb) W fun e W' => e = .returned (.bool (p i)) ∧ I (i + 1) W') :
    Calls Tryd.prog 51 #[.slice A l.length c, .func (.func g) #[] lb] w fun e w' => ∃ r : Int, e = .returned (.int .i64 r) ∧ ∃ m, m ≤ l.length ∧ I m w' ∧ ((r = -1 ∧ m = l.length ∧ ∀ j, j < m → p j = false) ∨ (0 ≤ r ∧ ∃ i, m = i + 1 ∧ p i = true ∧ ∀ j, j < i → p j = false)) := by
  have HP := Aside0.mk hp
  have HC := Aside0.mk hB
  have HD := Aside0.mk hd
  have H0 := Aside0.mk h0
  clear hp hB hd h0
  go_enter Tryd.func51, Tryd.ntmps51
  go_wp2
  go_loopg [5, 8] l.length (fun gg _ s8 wr => ∃ kk : Nat, kk ≤ l.length ∧ l.length - kk ≤ gg ∧ s8 = .int .i64 kk ∧ Aside0 (I kk wr) ∧ Aside0 (∀ j, j < kk → p j = false))
  case atStart => exact ⟨0, Nat.zero_le _, by omega, rfl, H0, ⟨fun j hj => absurd hj (Nat.not_lt_zero _)⟩⟩
  case round =>
    obtain ⟨kk, hkk, hg, rfl, HI, HN⟩ := hrel
    by_cases hlt : kk < l.length
    · have hltz : (kk : Int) < (l.length : Int) := by omega
      obtain ⟨ad, A2, c2, ea, hx0, hx1, hl2, hC2⟩ := at_T61 HD.out (kk : Int) (by omega) (by omega)
      cases ea
      rw [Int.toNat_natCast] at hx0 hx1
      replace hx0 := ((HC.out kk wr HI.out).cell (World.block_lt_of_cell? w0 _ hx0)).trans hx0
      replace hx1 := ((HC.out kk wr HI.out).cell (World.block_lt_of_cell? w0 _ hx1)).trans hx1
      have hcall := HP.out kk hlt HN.out wr HI.out A2 c2 hC2 hl2
      have HP2 := Aside0.mk hC2
      clear hC2 hl2
      cases hq : p kk with
      | true =>
        rw [hq] at hcall
        have HQ := Aside0.mk hq
        clear hq
        go_wp2_with (go_at_fn g; refine hcall.mono ?_; rintro e w' ⟨rfl, hb⟩)
        go_ret
        exact ⟨kk, rfl, kk + 1, by omega, hb, .inr ⟨by omega, kk, rfl, HQ.out, HN.out⟩⟩
      | false =>
        rw [hq] at hcall
        have HQ := Aside0.mk hq
        clear hq
        go_wp2_with (go_at_fn g; refine hcall.mono ?_; rintro e w' ⟨rfl, hb⟩)
        go_roundg (l.length - (kk + 1))
        case measure => omega
        case rel =>
          refine ⟨kk + 1, by omega, by omega, by go_num, ⟨hb⟩, ⟨fun j hj => ?_⟩⟩
          by_cases e : j = kk
          · subst e
            exact HQ.out
          · exact HN.out j (by omega)
    · have hltz : ¬ (kk : Int) < (l.length : Int) := by omega
      have : kk = l.length := by omega
      subst this
      go_wp2
      go_ret
      exact ⟨-1, rfl, l.length, Nat.le_refl _, HI.out, .inl ⟨rfl, rfl, HN.out⟩⟩
set_option maxHeartbeats 4000000 in
theorem any61 (I : Nat → World → Prop) (p : Nat → Bool) (l : List (S61)) (g : Nat) (lb : Array Value) (eg : ∀ args w, (callFunc g args).run Tryd.prog w = .ok (.enter g args) w) (A : Option Addr) (c : Nat) (w : World) (hn : l.length ≤ 9223372036854775807) (h0 : I 0 w)
    (w0 : World) (hd : Kd.C k61 w0 A l.length l) (hB : ∀ i W, I i W → Below w0.heap.size w0 W)
    (hp : ∀ i, i < l.length → (∀ j, j < i → p j = false) → ∀ W, I i W → ∀ A2 c2, Kd.C (Kd.int .i64) w0 A2 (rd_T61 l (i : Int)).f1.length (rd_T61 l (i : Int)).f1 → (rd_T61 l (i : Int)).f1.length ≤ c2 →
      Calls Tryd.prog g (#[.agg #[.bool (rd_T61 l (i : Int)).f0, .slice A2 (rd_T61 l (i : Int)).f1.length c2]] ++ lb) W fun e W' => e = .returned (.bool (p i)) ∧ I (i + 1) W') :
    Calls Tryd.prog 43 #[.slice A l.length c, .func (.func g) #[] lb] w fun e w' => ∃ b : Bool, e = .returned (.bool b) ∧ ∃ m, m ≤ l.length ∧ I m w' ∧ ((b = false ∧ m = l.length ∧ ∀ j, j < m → p j = false) ∨ (b = true ∧ ∃ i, m = i + 1 ∧ p i = true ∧ ∀ j, j < i → p j = false)) := by
  have hcall := idx61 I p l g lb eg A c w hn h0 w0 hd hB hp
  clear hp hB hd h0
  go_enter Tryd.func43, Tryd.ntmps43
  go_wp2_with (go_at_call 51; refine hcall.mono ?_; rintro e w' ⟨r, rfl, hr⟩)
  go_ret
  obtain ⟨m, hm, hI, h⟩ := hr
  refine ⟨_, rfl, m, hm, hI, ?_⟩
  rcases h with ⟨rfl, h⟩ | ⟨h0, h⟩
  · exact .inl ⟨by first | rfl | simp, h⟩
  · exact .inr ⟨by first | exact decide_eq_true h0 | (simp; omega), h⟩

/-! ### impl_areSteps: function 29 -/
/-- whether a step's clause is right -/
def stepB (x : S61) (vars : Int) : Bool := clauseB x.f1 vars
set_option maxHeartbeats 4000000 in
set_option maxRecDepth 100000 in
theorem areSteps_fn (x : S61) (vars : Int) (B : Nat) (A2 : Option Addr) (c2 : Nat) (w : World) (hr : Kd.C (Kd.int .i64) w A2 x.f1.length x.f1) (hc : x.f1.length ≤ c2) (hB : w.cell? ⟨B, 0, none⟩ = some (.int .i64 vars)) :
    Calls Tryd.prog 44 #[.agg #[.bool x.f0, .slice A2 x.f1.length c2], .pointer (some ⟨B, 0, none⟩)] w fun e w' => e = .returned (.bool (!(stepB x vars))) ∧ Below w.heap.size w w' := by
  obtain ⟨x0, x1⟩ := x
  have hBl : Below w.heap.size w (w.alloc (.cells #[.bool x0, .slice A2 x1.length c2] 61)) := (Below.refl _ _).alloc (Nat.le_refl _) _
  have hcall := fun W (h : Below w.heap.size w W) => impl_isClause.calls A2 c2 x1 vars (stepB ⟨x0, x1⟩ vars) W (Kd.C_below hr h) hc rfl
  have hB2 := (hBl.cell (p := ⟨B, 0, none⟩) (World.block_lt_of_cell? _ _ hB)).trans hB
  have HBl := Aside0.mk hBl
  have hc1 := hcall _ hBl
  clear hr hc hBl hcall
  generalize stepB ⟨x0, x1⟩ vars = b at hc1 ⊢
  go_enter Tryd.func44, Tryd.ntmps44
  go_wp2_with (go_at_call 39; refine hc1.mono ?_; rintro e w' ⟨rfl, hb⟩)
  go_ret
  exact ⟨rfl, HBl.out.trans (hb.mono HBl.out.size)⟩
def stepsB (l0 : List (S61)) (vars : Int) : Bool := decide (l0.length ≤ 200) && l0.all (fun x => stepB x vars)
def impl_areSteps.f (l0 : List (S61)) (a1 : Int) : Option Bool := some (stepsB l0 a1)
set_option maxHeartbeats 4000000 in
set_option maxRecDepth 100000 in
theorem impl_areSteps.calls (A0 : Option Addr) (c0 : Nat) (l0 : List (S61)) (a1 : Int) (r : Bool) (w : World) (hr0 : Kd.C k61 w A0 l0.length l0) (hc0 : l0.length ≤ c0) (h : impl_areSteps.f l0 a1 = some r) :
    Calls Tryd.prog 29 #[.slice A0 l0.length c0, .int .i64 a1] w fun e w' => e = .returned (.bool r) ∧ Below w.heap.size w w' := by
  obtain rfl : stepsB l0 a1 = r := Option.some.inj h
  clear h
  have hB0 : Below w.heap.size w (w.alloc (.cells #[.int .i64 a1] 3)) := (Below.refl _ _).alloc (Nat.le_refl _) _
  have hcell : (w.alloc (.cells #[.int .i64 a1] 3)).cell? ⟨w.heap.size, 0, none⟩ = some (.int .i64 a1) := by simp
  have hlt : w.heap.size < (w.alloc (.cells #[.int .i64 a1] 3)).heap.size := by simp
  by_cases hle : l0.length ≤ 200
  · have e1 : stepsB l0 a1 = l0.all (fun x => stepB x a1) := by unfold stepsB; rw [decide_eq_true hle, Bool.true_and]
    rw [e1]
    have hcall := any61 (fun _ W => Below (w.alloc (.cells #[.int .i64 a1] 3)).heap.size (w.alloc (.cells #[.int .i64 a1] 3)) W) (fun i => !(stepB (rd_T61 l0 (i : Int)) a1)) l0 44 #[.pointer (some ⟨w.heap.size, 0, none⟩)] (enters_of Tryd.func44 (by kernel_rfl) rfl) A0 c0 (w.alloc (.cells #[.int .i64 a1] 3)) (Kd.C_max hr0) (Below.refl _ _) (w.alloc (.cells #[.int .i64 a1] 3)) (Kd.C_below hr0 hB0) (fun _ _ h => h)
      (fun i hi _ W hW A2 c2 hd hc => (areSteps_fn (rd_T61 l0 (i : Int)) a1 w.heap.size A2 c2 W (Kd.C_below hd hW) hc ((hW.cell (p := ⟨w.heap.size, 0, none⟩) hlt).trans hcell)).mono (by
        rintro e w' ⟨rfl, hb⟩
        exact ⟨rfl, hW.trans (hb.mono hW.size)⟩))
    have hans : ∀ (b : Bool) (m : Nat), ((b = false ∧ m = l0.length ∧ ∀ j, j < m → (!(stepB (rd_T61 l0 (j : Int)) a1)) = false) ∨ (b = true ∧ ∃ i, m = i + 1 ∧ (!(stepB (rd_T61 l0 (i : Int)) a1)) = true ∧ ∀ j, j < i → (!(stepB (rd_T61 l0 (j : Int)) a1)) = false)) → m ≤ l0.length → (!b) = l0.all (fun x => stepB x a1) := by
      rintro b m (⟨rfl, rfl, h1⟩ | ⟨rfl, i, rfl, h1, h2⟩) hm
      · symm
        rw [Bool.not_false, List.all_eq_true]
        intro x hx
        obtain ⟨j, hj, rfl⟩ := List.getElem_of_mem hx
        have hr : rd_T61 l0 (j : Int) = l0[j] := by unfold rd_T61; simp [List.getD, hj]
        have := h1 j hj
        rw [hr] at this
        simpa using this
      · have hi : i < l0.length := by omega
        have hr : rd_T61 l0 (i : Int) = l0[i] := by unfold rd_T61; simp [List.getD, hi]
        rw [hr] at h1
        cases hb : l0.all (fun x => stepB x a1) with
        | false => rfl
        | true =>
          rw [List.all_eq_true] at hb
          have h3 := hb _ (List.getElem_mem hi)
          rw [h3] at h1
          cases h1
    have HA := Aside0.mk hans
    have HB0 := Aside0.mk hB0
    clear hr0 hc0 hans e1 hB0 hcell hlt
    go_enter Tryd.func29, Tryd.ntmps29
    go_wp2_with (go_at_call 43; refine hcall.mono ?_; rintro e w' ⟨b, rfl, m, hm, hb, hq⟩)
    go_ret
    rw [← HA.out b m hq hm]
    exact ⟨rfl, HB0.out.trans (hb.mono HB0.out.size)⟩
  · have e1 : stepsB l0 a1 = false := by unfold stepsB; rw [decide_eq_false hle, Bool.false_and]
    rw [e1]
    have hgt : 200 < l0.length := by omega
    have HB0 := Aside0.mk hB0
    clear hr0 hc0 e1 hB0 hcell hlt hle
    go_enter Tryd.func29, Tryd.ntmps29
    go_wp2
    go_ret
    exact ⟨rfl, HB0.out⟩

/-! ### impl_ProofText: function 13 -/
def stepT (x : S61) : List UInt8 := (if x.f0 = true then [100, 32] else []) ++ clauseT x.f1
def proofT (l : List S61) : List UInt8 := l.flatMap stepT
theorem steps_small {l : List S61} (h : stepsB l 40 = true) : l.length ≤ 200 ∧ ∀ x ∈ l, x.f1.length ≤ 12 ∧ ∀ y ∈ x.f1, smallI y := by
  unfold stepsB at h
  simp only [Bool.and_eq_true, decide_eq_true_eq, List.all_eq_true] at h
  exact ⟨h.1, fun x hx => clause_small (h.2 x hx) (by decide) (by decide)⟩
theorem stepT_le {x : S61} (h : x.f1.length ≤ 12 ∧ ∀ y ∈ x.f1, smallI y) : (stepT x).length ≤ 268 := by
  have := clauseT_le h.2
  have h1 := h.1
  unfold stepT
  split <;> simp only [List.length_append, List.length_cons, List.length_nil] <;> omega
def impl_ProofText.f (l0 : List S61) : Option (ByteArray × Int) := some (if l0.length ≤ 4096 then (if stepsB l0 40 = true then (sB (proofT l0), 0) else (sB [], 1)) else (sB [], 2))
set_option maxHeartbeats 4000000 in
set_option maxRecDepth 100000 in
theorem impl_ProofText.calls (A0 : Option Addr) (c0 : Nat) (l0 : List S61) (r1 : ByteArray) (r2 : Int) (w : World) (hT : Tab w) (hr0 : Kd.C k61 w A0 l0.length l0) (hc0 : l0.length ≤ c0) (h : impl_ProofText.f l0 = some (r1, r2)) :
    Calls Tryd.prog 13 #[.slice A0 l0.length c0] w fun e w' => e = .returned (.tuple #[.string r1, .int .i64 r2]) ∧ Below w.heap.size w w' := by
  have HR0 := Aside0.mk hr0
  have HT := Aside0.mk hT
  have hr1 := impl_areSteps.calls A0 c0 l0 40 _ w hr0 hc0 rfl
  unfold impl_ProofText.f at h
  have h := Option.some.inj h
  have hu61 := Tryd.underlying61
  clear hr0 hT
  by_cases hle : l0.length ≤ 4096
  · rw [if_pos hle] at h
    cases hv : stepsB l0 40 with
    | false =>
      rw [hv] at h hr1
      rw [if_neg Bool.false_ne_true] at h
      cases h
      clear hv
      go_enter Tryd.func13, Tryd.ntmps13
      go_wp2_with (go_at_call 29; refine hr1.mono ?_; rintro e w1 ⟨rfl, hb⟩)
      go_ret2
      exact ⟨rfl, hb⟩
    | true =>
      rw [hv] at h hr1
      rw [if_pos rfl] at h
      cases h
      have HS := Aside0.mk (steps_small hv)
      clear hv
      go_enter Tryd.func13, Tryd.ntmps13
      go_wp2_with (go_at_call 29; refine hr1.mono ?_; rintro e w1 ⟨rfl, hb⟩; have HB1 := Aside0.mk hb; have HBU := Aside0.mk (Lib.fresh_isBuilder 46 5 w1); have HBx := Aside0.mk (HB1.out.trans (((Below.refl _ _).alloc (Nat.le_refl _) (.cells #[.pointer none, .slice none 0 0] 46)).mono HB1.out.size)); have HQ := Aside0.mk HB1.out.size; clear hb hr1 HB1)
      obtain ⟨q, hq⟩ : ∃ q, w1.heap.size = q := ⟨_, rfl⟩
      generalize w1.alloc (.cells #[.pointer none, .slice none 0 0] 46) = w2 at HBU HBx ⊢
      rw [hq] at HBU HQ ⊢
      clear hq
      go_loopg [17] l0.length (fun gg v17 wr => ∃ (kk : Nat), v17 = .int .i64 kk ∧ kk ≤ l0.length ∧ l0.length - kk ≤ gg ∧ Aside0 (Lib.IsBuilder 46 5 q q (Lib.byteCells ((l0.take kk).flatMap stepT)) wr) ∧ Aside0 (Below w.heap.size w wr))
      case atStart => exact ⟨0, rfl, Nat.zero_le _, by omega, HBU, HBx⟩
      case round =>
        clear HBU HBx
        obtain ⟨kk, rfl, hk, hgk, HBU, HB⟩ := hrel
        have hqr : q < wr.heap.size := by
          rcases HBU.out with h | h
          · exact h.lt
          · exact h.lt
        have HQR := Aside0.mk hqr
        by_cases hlt : kk < l0.length
        · have hltz : (kk : Int) < (l0.length : Int) := by omega
          have h0z : (0 : Int) ≤ (kk : Int) := by omega
          obtain ⟨ad, A2, c2, ea, hw0, hw1, hlc, hC2⟩ := at_T61 HR0.out (kk : Int) h0z hltz
          subst ea
          have hx0 := (HB.out.cell (World.block_lt_of_cell? w _ hw0)).trans hw0
          have hx1 := (HB.out.cell (World.block_lt_of_cell? w _ hw1)).trans hw1
          clear hw0 hw1
          have hrd : rd_T61 l0 (kk : Int) = l0[kk] := by unfold rd_T61; simp [List.getD, hlt]
          rw [Int.toNat_natCast, hrd] at hx0 hx1
          rw [hrd] at hlc hC2
          have hcs := HS.out.2 _ (List.getElem_mem hlt)
          have HF := Aside0.mk (flat_snoc stepT l0 kk _ (List.getElem?_eq_getElem hlt))
          have hn1 := flat_le stepT 268 (l0.take kk) (fun c hc => stepT_le (HS.out.2 c (List.mem_of_mem_take hc)))
          have hn2 := clauseT_le hcs.2
          generalize l0[kk] = x at hx0 hx1 hlc hC2 hcs HF hn2
          obtain ⟨x0, c⟩ := x
          simp only at hx0 hx1 hlc hC2 hcs hn2
          have ew : IntKind.i64.wrap ((kk : Int) + 1) = ((kk + 1 : Nat) : Int) := IntWalk.i64_in _ (by have := HS.out.1; omega)
          obtain ⟨acc, hacc⟩ : ∃ acc, (l0.take kk).flatMap stepT = acc := ⟨_, rfl⟩
          have hal : acc.length ≤ 100000 := by
            rw [← hacc]
            have h1 : (l0.take kk).length ≤ 200 := by rw [List.length_take]; have := HS.out.1; omega
            have h2 : 268 * (l0.take kk).length ≤ 268 * 200 := Nat.mul_le_mul_left _ h1
            omega
          have hsn : (l0.take (kk + 1)).flatMap stepT = acc ++ stepT ⟨x0, c⟩ := by rw [HF.out, hacc]
          rw [hacc] at HBU
          have HN := Aside0.mk (And.intro hal (show (clauseT c).length ≤ 266 by have := hcs.1; omega))
          have HSN := Aside0.mk hsn
          have hba : Below wr.heap.size wr (wr.alloc (.cells #[.bool x0, .slice A2 c.length c2] 61)) := (Below.refl _ _).alloc (Nat.le_refl _) _
          have hlA : wr.heap.size < (wr.alloc (.cells #[.bool x0, .slice A2 c.length c2] 61)).heap.size := by simp
          have hy1 : (wr.alloc (.cells #[.bool x0, .slice A2 c.length c2] 61)).heap[wr.heap.size]? = some (.cells #[.bool x0, .slice A2 c.length c2] 61 (0, 0)) := heap_alloc_new wr _
          have HY := Aside0.mk hy1
          have HBA := Aside0.mk hba
          have HC2 := Aside0.mk (And.intro hC2 hlc)
          have HCS := Aside0.mk hcs
          have HBUA := Aside0.mk (build_below HBU.out hba)
          have HBB := Aside0.mk (HB.out.trans (hba.mono HB.out.size))
          clear hacc hn1 hn2 hal hsn HF hrd hC2 hlc hcs hy1 hba
          cases x0 with
          | false =>
            have hcall := fun W (hW : Below w.heap.size w W) => impl_clauseText.calls A2 c2 c W (tab_below HT.out hW) (Kd.C_below HC2.out.1 hW) HC2.out.2 HCS.out.2 (by have := HCS.out.1; omega)
            go_wp2_with (first
              | (go_at_call 22; refine (hcall _ HBB.out).mono ?_; rintro e w5 ⟨rfl, hb⟩; clear hcall; have hw6 := writeStr q q (Lib.byteCells acc) (sB (clauseT c)) w5 (build_below HBUA.out hb) (by rw [sB_size, Lib.byteCells_length]; have := HN.out; omega) (by have := hb.size; have := HBA.out.size; have := HQR.out; omega); have HB5 := Aside0.mk (HBB.out.trans (hb.mono HBB.out.size)); clear hb)
              | (go_at_call 20; refine hw6.mono ?_; rintro e w6 ⟨rfl, hbu, hb⟩; clear hw6; have HB6 := Aside0.mk (HB5.out.trans (hb.mono (by have := HQ.out; omega))); have HBU6 := Aside0.mk (Or.inr hbu : Lib.IsBuilder 46 5 q q (Lib.byteCells acc ++ Lib.strCells (sB (clauseT c))) w6); clear hb hbu))
            go_roundg (gk - 1)
            case measure => omega
            case rel => exact ⟨kk + 1, rfl, by omega, by omega, ⟨by rw [HSN.out]; unfold stepT; rw [if_neg Bool.false_ne_true, List.nil_append, Lib.byteCells_append]; exact HBU6.out⟩, HB6⟩
          | true =>
            have hcall := fun W (hW : Below w.heap.size w W) => impl_clauseText.calls A2 c2 c W (tab_below HT.out hW) (Kd.C_below HC2.out.1 hW) HC2.out.2 HCS.out.2 (by have := HCS.out.1; omega)
            have hd := writeStrK q q (Lib.byteCells acc) (sB [100, 32]) _ HBUA.out (by rw [sB_size, Lib.byteCells_length]; have := HN.out; simp only [List.length_cons, List.length_nil]; omega) (by have := HBA.out.size; have := HQR.out; omega)
            go_upto_region 11 with (go_at_call 20; refine hd.mono ?_; rintro e w6 ⟨rfl, hbu, hb, hok⟩; clear hd; have HB6 := Aside0.mk (HBB.out.trans (hb.mono (by have := HQ.out; omega))); have HBU6 := Aside0.mk (Or.inr hbu : Lib.IsBuilder 46 5 q q (Lib.byteCells acc ++ Lib.strCells (sB [100, 32])) w6); have HZ := Aside0.mk (hok _ _ HY.out (fun e_ => by have := HQR.out; have := Option.some.inj e_; omega) (fun c_ fz_ e_ => by cases e_)); have HS6 := Aside0.mk (Nat.le_trans (Nat.le_trans (Nat.le_of_lt HQR.out) HBA.out.size) hb.size); clear hb hbu hok)
            have hz1 : w6.cell? ⟨wr.heap.size, 1, none⟩ = some (.slice A2 c.length c2) := by rw [Lib.cell_of_heap HZ.out]; rfl
            go_wp2_with (first
              | (go_at_call 22; refine (hcall _ HB6.out).mono ?_; rintro e w7 ⟨rfl, hb⟩; clear hcall; have hw8 := writeStr q q (Lib.byteCells acc ++ Lib.strCells (sB [100, 32])) (sB (clauseT c)) w7 (build_below HBU6.out hb) (by rw [sB_cells, sB_size, List.length_append, Lib.byteCells_length, Lib.byteCells_length]; have := HN.out; simp only [List.length_cons, List.length_nil]; omega) (Nat.le_trans HS6.out hb.size); have HB7 := Aside0.mk (HB6.out.trans (hb.mono HB6.out.size)); clear hb)
              | (go_at_call 20; refine hw8.mono ?_; rintro e w8 ⟨rfl, hbu, hb⟩; clear hw8; have HB8 := Aside0.mk (HB7.out.trans (hb.mono (by have := HQ.out; omega))); have HBU8 := Aside0.mk (Or.inr hbu : Lib.IsBuilder 46 5 q q ((Lib.byteCells acc ++ Lib.strCells (sB [100, 32])) ++ Lib.strCells (sB (clauseT c))) w8); clear hb hbu))
            go_roundg (gk - 1)
            case measure => omega
            case rel => exact ⟨kk + 1, rfl, by omega, by omega, ⟨by rw [HSN.out]; unfold stepT; rw [if_pos rfl, Lib.byteCells_append, Lib.byteCells_append, ← List.append_assoc]; exact HBU8.out⟩, HB8⟩
        · obtain rfl : kk = l0.length := by omega
          have hu := HBU.out
          rw [List.take_length] at hu
          have hst := Tryd.Builder_String_any q q _ wr hu (Nat.le_of_lt hqr)
          clear hu
          go_wp2_with (go_at_call 23; refine hst.mono ?_; rintro e w7 ⟨rfl, hb⟩; have HB7 := Aside0.mk (HB.out.trans (hb.mono (by have := HQ.out; omega))); clear hb hst)
          go_ret2
          exact ⟨rfl, HB7.out⟩
  · rw [if_neg hle] at h
    cases h
    have hgt : 4096 < l0.length := by omega
    clear hr1 hle
    go_enter Tryd.func13, Tryd.ntmps13
    go_wp2
    go_ret2
    exact ⟨rfl, Below.refl _ _⟩

/-! ### spec_l03Text: function 27 -/
theorem own_conv (W : World) (base : Nat) (l : List UInt8) (hb : base ≤ W.heap.size) (hl : l.length ≤ 1099511627776) : Own (Lib.bytesWorld W 5 (sB l)) base (.slice (some ⟨W.heap.size, 0, none⟩) l.length (grownCap W l.length 0 5)) l := by
  have hge := grownCap_ge W l.length 0 5
  have hcm := grownCap_le_maxLen W l.length 0 5 (by simp only [maxLen]; omega)
  have hs := sB_size l
  have hsz : (Lib.bytesCells W 5 (sB l)).size = grownCap W l.length 0 5 := by
    unfold Lib.bytesCells
    rw [Array.size_append, Array.size_map, Array.size_replicate, show (sB l).data.size = l.length from hs, hs]
    omega
  refine ⟨W.heap.size, _, _, _, rfl, hb, Lib.bytesWorld_at_new W 5 (sB l), .inr (Nat.le_refl _), hge, hcm, hsz, ?_⟩
  unfold Lib.bytesCells
  rw [Array.toList_append]
  have : ((sB l).data.map fun b => Value.int .u8 b.toNat).toList = Lib.byteCells l := by
    rw [Array.toList_map]; rfl
  rw [this, ← Lib.byteCells_length l]
  exact List.take_left
theorem conv_to (l : List UInt8) (W : World) : (convert 9 44 (.string (sB l))).run Tryd.prog W = .ok (.slice (some ⟨W.heap.size, 0, none⟩) l.length (grownCap W l.length 0 5)) (Lib.bytesWorld W 5 (sB l)) := by
  have h := print_bytes (P := Tryd.prog) 9 44 5 Tryd.underlying9 Tryd.underlying44 Tryd.underlying5 (sB l) W
  rw [sB_size] at h
  exact h
theorem conv_back {w : World} {base : Nat} {v : Value} {l : List UInt8} (h : Own w base v l) : (convert 44 9 v).run Tryd.prog w = .ok (.string (sB l)) w := by
  obtain ⟨g, cap, rfl, hc⟩ := h.cell
  have h2 := run_convert_bytes_arg (P := Tryd.prog) w 44 5 Tryd.underlying44 Tryd.underlying5 g 0 l.length cap (l.map fun b => (b.toNat : Int)) (by simp) (fun i hi => by
    have h3 := hc i (.int .u8 l[i].toNat) (by simp [Lib.byteCells, hi])
    have hadd : (⟨g, 0, none⟩ : Addr).add i = ⟨g, 0 + i, none⟩ := by unfold Addr.add; split <;> simp_all
    rw [hadd] at h3
    rw [h3]
    simp [List.getD, hi]) 9 Tryd.underlying9
  have hm : (l.map (fun b => (b.toNat : Int))).map (fun n => UInt8.ofNat n.toNat) = l := by
    rw [List.map_map]
    conv => rhs; rw [← List.map_id l]
    exact List.map_congr_left (fun b _ => by simp)
  rw [h2]
  unfold strOfNums sB
  rw [hm]
section
variable {ops : Array Oper} {rest : List Oper} {o : Oper} {a : Act} {Q : Exit → Act → World → Prop}
theorem Own.step {w : World} (hgd : o.guard = none) (sl x : Operand) (t u : TypeId) (ho : o.op = .call { callee := .builtin .append, args := #[sl, x], argTypes := #[t, u] })
    (ht : Tryd.prog.underlying t = some (.slice 5)) (hu : Tryd.prog.underlying u = some .string) (base : Nat) (v : Value) (l : List UInt8) (hs : a.eval sl = v) (hown : Own w base v l) (s : List UInt8) (hx : a.eval x = .string (sB s))
    (hl : l.length + s.length ≤ 140737488355328) (hbase : base ≤ w.heap.size)
    (h : ∀ v' w', Own w' base v' (l ++ s) → Below base w w' → wpList Tryd.prog ops Q rest (a.put o.dst v') w') : wpList Tryd.prog ops Q (o :: rest) a w := by
  refine wpList_plain hgd fun K hK => ?_
  obtain ⟨v', w', hr, h2, h3⟩ := hown.append t u o.type ht hu s hl hbase
  unfold Oper.wp execOp
  simp only [ho, resolve, invoke, builtin, Sem.run_bind, Sem.run_pure, Result.andThen_ok, List.map_toArray, List.map_cons, List.map_nil, hs, hx, hr]
  exact hK _ _ (h v' w' h2 h3)
end
def spec_l03Text.f (l0 : List S61) : Option ByteArray := if stepsB l0 40 = true then some (sB (proofT l0)) else none
set_option maxHeartbeats 4000000 in
set_option maxRecDepth 100000 in
theorem spec_l03Text.calls (A0 : Option Addr) (c0 : Nat) (l0 : List S61) (r : ByteArray) (w : World) (hr0 : Kd.C k61 w A0 l0.length l0) (hc0 : l0.length ≤ c0) (h : spec_l03Text.f l0 = some r) :
    Calls Tryd.prog 27 #[.slice A0 l0.length c0] w fun e w' => e = .returned (.string r) ∧ Below w.heap.size w w' := by
  have HR0 := Aside0.mk hr0
  have hmax : l0.length ≤ 9223372036854775807 := Kd.C_max hr0
  have hu61 := Tryd.underlying61
  unfold spec_l03Text.f at h
  clear hr0
  cases hv : stepsB l0 40 with
  | false => rw [hv, if_neg Bool.false_ne_true] at h; cases h
  | true =>
    rw [hv, if_pos rfl] at h
    cases h
    have HS := Aside0.mk (steps_small hv)
    clear hv
    have HO := Aside0.mk (show Own (w.alloc (.cells #[] 5)) w.heap.size (.slice (some ⟨w.heap.size, 0, none⟩) 0 0) [] from ⟨w.heap.size, 0, #[], (0, 0), rfl, Nat.le_refl _, heap_alloc_new w _, .inl (Nat.le_refl _), Nat.le_refl _, by simp [maxLen], rfl, rfl⟩)
    have HB := Aside0.mk ((Below.refl w.heap.size w).alloc (Nat.le_refl _) (.cells #[] 5))
    have HG := Aside0.mk (HB.out.size)
    go_enter Tryd.func27, Tryd.ntmps27
    go_wp2
    go_loopg [3, 4] l0.length (fun gg v3 v4 wr => ∃ (kk : Nat) (v : Value), v3 = v ∧ v4 = .int .i64 kk ∧ kk ≤ l0.length ∧ l0.length - kk ≤ gg ∧ Aside0 (Own wr w.heap.size v ((l0.take kk).flatMap stepT)) ∧ Aside0 (w.heap.size ≤ wr.heap.size) ∧ Aside0 (Below w.heap.size w wr))
    case atStart => exact ⟨0, _, rfl, rfl, Nat.zero_le _, by omega, HO, HG, HB⟩
    case round =>
      clear HO HG HB
      obtain ⟨kk, v, rfl, rfl, hk, hgk, HO, HG, HB⟩ := hrel
      by_cases hlt : kk < l0.length
      · have hltz : (kk : Int) < (l0.length : Int) := by omega
        have h0z : (0 : Int) ≤ (kk : Int) := by omega
        obtain ⟨ad, A2, c2, ea, hw0, hw1, hlc, hC2⟩ := at_T61 HR0.out (kk : Int) h0z hltz
        subst ea
        have hrd : rd_T61 l0 (kk : Int) = l0[kk] := by unfold rd_T61; simp [List.getD, hlt]
        rw [Int.toNat_natCast, hrd] at hw0 hw1
        rw [hrd] at hlc hC2
        have hcs := HS.out.2 _ (List.getElem_mem hlt)
        have HF := Aside0.mk (flat_snoc stepT l0 kk _ (List.getElem?_eq_getElem hlt))
        have hn1 := flat_le stepT 268 (l0.take kk) (fun c hc => stepT_le (HS.out.2 c (List.mem_of_mem_take hc)))
        generalize l0[kk] = x at hw0 hw1 hlc hC2 hcs HF
        obtain ⟨x0, c⟩ := x
        simp only at hw0 hw1 hlc hC2 hcs
        have ew : IntKind.i64.wrap ((kk : Int) + 1) = ((kk + 1 : Nat) : Int) := IntWalk.i64_in _ (by have := HS.out.1; omega)
        obtain ⟨acc, hacc⟩ : ∃ acc, (l0.take kk).flatMap stepT = acc := ⟨_, rfl⟩
        have hal : acc.length ≤ 100000 := by
          rw [← hacc]
          have h1 : (l0.take kk).length ≤ 200 := by rw [List.length_take]; have := HS.out.1; omega
          have h2 : 268 * (l0.take kk).length ≤ 268 * 200 := Nat.mul_le_mul_left _ h1
          omega
        have hsn : (l0.take (kk + 1)).flatMap stepT = acc ++ stepT ⟨x0, c⟩ := by rw [HF.out, hacc]
        rw [hacc] at HO
        have HW1 := Aside0.mk hw1
        have HC2 := Aside0.mk hC2
        have HLC := Aside0.mk hlc
        have HCS := Aside0.mk hcs
        have hx0 := (HB.out.cell (World.block_lt_of_cell? w _ hw0)).trans hw0
        have hx1 := (HB.out.cell (World.block_lt_of_cell? w _ hw1)).trans hw1
        clear hacc hn1 HF hrd hC2 hlc hcs hw0 hw1
        cases x0 with
        | false =>
          have HN := Aside0.mk hal
          have HSN : Aside0 ((l0.take (kk + 1)).flatMap stepT = acc ++ clauseT c) := ⟨by rw [hsn]; unfold stepT; rw [if_neg Bool.false_ne_true, List.nil_append]⟩
          clear hal hsn
          go_wp2
          clear hx0 hx1
          obtain ⟨gk0, hgk0⟩ : ∃ m, gk = m := ⟨_, rfl⟩
          rw [hgk0] at hgk
          go_loopg [3, 5] c.length (fun gg v3 v5 wr2 => ∃ (jj : Nat) (v : Value), v3 = v ∧ v5 = .int .i64 jj ∧ jj ≤ c.length ∧ c.length - jj ≤ gg ∧ Aside0 (Own wr2 w.heap.size v (acc ++ (c.take jj).flatMap litT)) ∧ Aside0 (w.heap.size ≤ wr2.heap.size) ∧ Aside0 (Below w.heap.size w wr2))
          case atStart => exact ⟨0, _, rfl, rfl, Nat.zero_le _, by omega, ⟨by rw [List.take_zero, List.flatMap_nil, List.append_nil]; exact HO.out⟩, HG, HB⟩
          case round =>
            clear HO HG
            obtain ⟨jj, v, rfl, rfl, hj, hgj, HO, HG, HB2⟩ := hrel
            have hx1 := (HB2.out.cell (World.block_lt_of_cell? w _ HW1.out)).trans HW1.out
            by_cases hlt2 : jj < c.length
            · have hltj : (jj : Int) < (c.length : Int) := by omega
              have h0j : (0 : Int) ≤ (jj : Int) := by omega
              obtain ⟨ae, ea2, hxe⟩ := Kd.at_int (Kd.C_below HC2.out HB2.out) (jj : Int) h0j hltj
              subst ea2
              rw [rd_of c jj hlt2, Int.toNat_natCast] at hxe
              have hsm := HCS.out.2 _ (List.getElem_mem hlt2)
              have HF := Aside0.mk (flat_snoc litT c jj _ (List.getElem?_eq_getElem hlt2))
              have hn3 := flat_le litT 22 (c.take jj) (fun x hx => litT_le (HCS.out.2 x (List.mem_of_mem_take hx)))
              have HN2 := Aside0.mk (litT_le hsm)
              generalize c[jj] = x at hxe hsm HF HN2
              have ew2 : IntKind.i64.wrap ((jj : Int) + 1) = ((jj + 1 : Nat) : Int) := IntWalk.i64_in _ (by have := HCS.out.1; omega)
              have hcall := digits_calls x wr hsm
              obtain ⟨ac2, hac2⟩ : ∃ ac2, acc ++ (c.take jj).flatMap litT = ac2 := ⟨_, rfl⟩
              have hal2 : ac2.length ≤ 200000 := by
                rw [← hac2, List.length_append]
                have h1 : (c.take jj).length ≤ 12 := by rw [List.length_take]; have := HCS.out.1; omega
                have := HN.out
                omega
              have hsn2 : acc ++ (c.take (jj + 1)).flatMap litT = ac2 ++ litT x := by rw [HF.out, ← List.append_assoc, hac2]
              rw [hac2] at HO
              have HSN2 := Aside0.mk hsn2
              have HAL2 := Aside0.mk hal2
              have e1 := sB_lit x
              have n1 : (sB (Lib.itoa x)).size + 1 ≤ 9223372036854775807 := by have := HN2.out; simp only [litT, List.length_append, List.length_cons, List.length_nil] at this; rw [sB_size]; omega
              clear hac2 hsn2 hal2 hn3 hsm HF
              go_wp2_with (first
                | (go_at_call 34; refine hcall.mono ?_; rintro e w5 ⟨rfl, hb⟩; clear hcall; have HO5 := Aside0.mk (HO.out.below hb); have HB5 := Aside0.mk (HB2.out.trans (hb.mono HB2.out.size)); have HG5 := Aside0.mk (Nat.le_trans HG.out hb.size); clear hb hx1 hxe HB2 HG HO)
                | ((with_reducible refine gate_builtin (b := .append) (xs := #[.tmp 30, .tmp 40]) rfl ?_); at_builtin; refine Own.step rfl (.tmp 30) (.tmp 40) 44 9 rfl Tryd.underlying44 Tryd.underlying9 w.heap.size _ ac2 rfl HO5.out (litT x) rfl (by have := HAL2.out; have := HN2.out; omega) HG5.out ?_; intro v1 w6 ho hb; have HO6 := Aside0.mk ho; have HB6 := Aside0.mk (HB5.out.trans (hb.mono (by omega))); have HG6 := Aside0.mk (Nat.le_trans HG5.out hb.size); clear hb ho))
              go_roundg (gk - 1)
              case measure => omega
              case rel => exact ⟨jj + 1, _, rfl, rfl, by omega, by omega, ⟨by rw [HSN2.out]; exact HO6.out⟩, HG6, HB6⟩
            · obtain rfl : jj = c.length := by omega
              rw [List.take_length] at HO
              have hn3 := flat_le litT 22 c (fun x hx => litT_le (HCS.out.2 x hx))
              obtain ⟨ac2, hac2⟩ : ∃ ac2, acc ++ c.flatMap litT = ac2 := ⟨_, rfl⟩
              have HAL2 := Aside0.mk (show ac2.length ≤ 200000 by rw [← hac2, List.length_append]; have := HN.out; have := HCS.out.1; omega)
              have hsn2 : (l0.take (kk + 1)).flatMap stepT = ac2 ++ [48, 10] := by rw [HSN.out, clauseT, ← List.append_assoc, hac2]
              have HSN2 := Aside0.mk hsn2
              rw [hac2] at HO
              clear hac2 hn3 hsn2
              go_wp2_with ((with_reducible refine gate_builtin (b := .append) (xs := #[.tmp 42, .const (.string ⟨#[48, 10]⟩)]) rfl ?_); at_builtin; refine Own.step rfl (.tmp 42) (.const (.string ⟨#[48, 10]⟩)) 44 9 rfl Tryd.underlying44 Tryd.underlying9 w.heap.size _ ac2 rfl HO.out [48, 10] rfl (by have := HAL2.out; simp only [List.length_cons, List.length_nil]; omega) HG.out ?_; intro v1 w6 ho hb; have HO6 := Aside0.mk ho; have HB6 := Aside0.mk (HB2.out.trans (hb.mono (by omega))); have HG6 := Aside0.mk (Nat.le_trans HG.out hb.size); clear hb ho)
              go_roundg (gk0 - 1)
              case measure => omega
              case rel => exact ⟨kk + 1, _, rfl, rfl, by omega, by omega, ⟨by rw [HSN2.out]; exact HO6.out⟩, HG6, HB6⟩
        | true =>
          have HN0 := Aside0.mk hal
          have HSN : Aside0 ((l0.take (kk + 1)).flatMap stepT = (acc ++ [100, 32]) ++ clauseT c) := ⟨by rw [hsn]; unfold stepT; rw [if_pos rfl, List.append_assoc]⟩
          have HN : Aside0 ((acc ++ [100, 32]).length ≤ 100002) := ⟨by rw [List.length_append]; simp only [List.length_cons, List.length_nil]; omega⟩
          clear hal hsn
          go_wp2_with ((with_reducible refine gate_builtin (b := .append) (xs := #[.tmp 18, .const (.string ⟨#[100, 32]⟩)]) rfl ?_); at_builtin; refine Own.step rfl (.tmp 18) (.const (.string ⟨#[100, 32]⟩)) 44 9 rfl Tryd.underlying44 Tryd.underlying9 (w.heap.size) _ acc rfl HO.out [100, 32] rfl (by have := HN0.out; simp only [List.length_cons, List.length_nil]; omega) HG.out ?_; intro v1 w6 ho hb; have HO6 := Aside0.mk ho; have HB6 := Aside0.mk (HB.out.trans hb); have HG6 := Aside0.mk (Nat.le_trans HG.out hb.size); clear hb ho hx0 hx1 HO HB HG)
          have HO := HO6
          have HB := HB6
          have HG := HG6
          clear HO6 HB6 HG6
          generalize acc ++ [100, 32] = acc at HO HSN HN
          obtain ⟨gk0, hgk0⟩ : ∃ m, gk = m := ⟨_, rfl⟩
          rw [hgk0] at hgk
          go_loopg [3, 5] c.length (fun gg v3 v5 wr2 => ∃ (jj : Nat) (v : Value), v3 = v ∧ v5 = .int .i64 jj ∧ jj ≤ c.length ∧ c.length - jj ≤ gg ∧ Aside0 (Own wr2 w.heap.size v (acc ++ (c.take jj).flatMap litT)) ∧ Aside0 (w.heap.size ≤ wr2.heap.size) ∧ Aside0 (Below w.heap.size w wr2))
          case atStart => exact ⟨0, _, rfl, rfl, Nat.zero_le _, by omega, ⟨by rw [List.take_zero, List.flatMap_nil, List.append_nil]; exact HO.out⟩, HG, HB⟩
          case round =>
            clear HO HG
            obtain ⟨jj, v, rfl, rfl, hj, hgj, HO, HG, HB2⟩ := hrel
            have hx1 := (HB2.out.cell (World.block_lt_of_cell? w _ HW1.out)).trans HW1.out
            by_cases hlt2 : jj < c.length
            · have hltj : (jj : Int) < (c.length : Int) := by omega
              have h0j : (0 : Int) ≤ (jj : Int) := by omega
              obtain ⟨ae, ea2, hxe⟩ := Kd.at_int (Kd.C_below HC2.out HB2.out) (jj : Int) h0j hltj
              subst ea2
              rw [rd_of c jj hlt2, Int.toNat_natCast] at hxe
              have hsm := HCS.out.2 _ (List.getElem_mem hlt2)
              have HF := Aside0.mk (flat_snoc litT c jj _ (List.getElem?_eq_getElem hlt2))
              have hn3 := flat_le litT 22 (c.take jj) (fun x hx => litT_le (HCS.out.2 x (List.mem_of_mem_take hx)))
              have HN2 := Aside0.mk (litT_le hsm)
              generalize c[jj] = x at hxe hsm HF HN2
              have ew2 : IntKind.i64.wrap ((jj : Int) + 1) = ((jj + 1 : Nat) : Int) := IntWalk.i64_in _ (by have := HCS.out.1; omega)
              have hcall := digits_calls x wr hsm
              obtain ⟨ac2, hac2⟩ : ∃ ac2, acc ++ (c.take jj).flatMap litT = ac2 := ⟨_, rfl⟩
              have hal2 : ac2.length ≤ 200000 := by
                rw [← hac2, List.length_append]
                have h1 : (c.take jj).length ≤ 12 := by rw [List.length_take]; have := HCS.out.1; omega
                have := HN.out
                omega
              have hsn2 : acc ++ (c.take (jj + 1)).flatMap litT = ac2 ++ litT x := by rw [HF.out, ← List.append_assoc, hac2]
              rw [hac2] at HO
              have HSN2 := Aside0.mk hsn2
              have HAL2 := Aside0.mk hal2
              have e1 := sB_lit x
              have n1 : (sB (Lib.itoa x)).size + 1 ≤ 9223372036854775807 := by have := HN2.out; simp only [litT, List.length_append, List.length_cons, List.length_nil] at this; rw [sB_size]; omega
              clear hac2 hsn2 hal2 hn3 hsm HF
              go_wp2_with (first
                | (go_at_call 34; refine hcall.mono ?_; rintro e w5 ⟨rfl, hb⟩; clear hcall; have HO5 := Aside0.mk (HO.out.below hb); have HB5 := Aside0.mk (HB2.out.trans (hb.mono HB2.out.size)); have HG5 := Aside0.mk (Nat.le_trans HG.out hb.size); clear hb hx1 hxe HB2 HG HO)
                | ((with_reducible refine gate_builtin (b := .append) (xs := #[.tmp 30, .tmp 40]) rfl ?_); at_builtin; refine Own.step rfl (.tmp 30) (.tmp 40) 44 9 rfl Tryd.underlying44 Tryd.underlying9 w.heap.size _ ac2 rfl HO5.out (litT x) rfl (by have := HAL2.out; have := HN2.out; omega) HG5.out ?_; intro v1 w6 ho hb; have HO6 := Aside0.mk ho; have HB6 := Aside0.mk (HB5.out.trans (hb.mono (by omega))); have HG6 := Aside0.mk (Nat.le_trans HG5.out hb.size); clear hb ho))
              go_roundg (gk - 1)
              case measure => omega
              case rel => exact ⟨jj + 1, _, rfl, rfl, by omega, by omega, ⟨by rw [HSN2.out]; exact HO6.out⟩, HG6, HB6⟩
            · obtain rfl : jj = c.length := by omega
              rw [List.take_length] at HO
              have hn3 := flat_le litT 22 c (fun x hx => litT_le (HCS.out.2 x hx))
              obtain ⟨ac2, hac2⟩ : ∃ ac2, acc ++ c.flatMap litT = ac2 := ⟨_, rfl⟩
              have HAL2 := Aside0.mk (show ac2.length ≤ 200000 by rw [← hac2, List.length_append]; have := HN.out; have := HCS.out.1; omega)
              have hsn2 : (l0.take (kk + 1)).flatMap stepT = ac2 ++ [48, 10] := by rw [HSN.out, clauseT, ← List.append_assoc, hac2]
              have HSN2 := Aside0.mk hsn2
              rw [hac2] at HO
              clear hac2 hn3 hsn2
              go_wp2_with ((with_reducible refine gate_builtin (b := .append) (xs := #[.tmp 42, .const (.string ⟨#[48, 10]⟩)]) rfl ?_); at_builtin; refine Own.step rfl (.tmp 42) (.const (.string ⟨#[48, 10]⟩)) 44 9 rfl Tryd.underlying44 Tryd.underlying9 w.heap.size _ ac2 rfl HO.out [48, 10] rfl (by have := HAL2.out; simp only [List.length_cons, List.length_nil]; omega) HG.out ?_; intro v1 w6 ho hb; have HO6 := Aside0.mk ho; have HB6 := Aside0.mk (HB2.out.trans (hb.mono (by omega))); have HG6 := Aside0.mk (Nat.le_trans HG.out hb.size); clear hb ho)
              go_roundg (gk0 - 1)
              case measure => omega
              case rel => exact ⟨kk + 1, _, rfl, rfl, by omega, by omega, ⟨by rw [HSN2.out]; exact HO6.out⟩, HG6, HB6⟩
      · obtain rfl : kk = l0.length := by omega
        rw [List.take_length] at HO
        have hcb := conv_back HO.out
        go_wp2
        go_ret
        exact ⟨rfl, HB.out⟩

/-! ### spec_ProofText: function 11 -/
def spec_ProofText.f (k : Nat) (l0 : List (S61)) : Option (ByteArray × Int) := if (l0.length : Int) > 4096 then (some ((⟨#[]⟩ : ByteArray), 2)) else ((spec_l03Steps.f k l0 40).bind fun t119 => (if t119 = true then ((spec_l03Text.f l0).bind fun t120 => (some (t120, 0))) else (some ((⟨#[]⟩ : ByteArray), 1))))
theorem spec_ProofText.mono : ∀ a0 k, LeO (spec_ProofText.f k a0) (spec_ProofText.f (k + 1) a0) := by
  intro a0 k
  unfold spec_ProofText.f
  repeat' first
      | (with_reducible exact spec_l03Steps.mono _ _ _)
      | (with_reducible exact LeO.refl _)
      | (with_reducible exact LeO.none _)
      | (with_reducible refine LeO.ite ?_ ?_)
      | (with_reducible refine LeO.bind ?_ (fun _ => ?_))
      | exact spec_l03Steps.mono _ _ _
      | exact LeO.none _
      | refine LeO.ite ?_ ?_
      | refine LeO.bind ?_ (fun _ => ?_)
set_option maxHeartbeats 8000000 in
set_option maxRecDepth 100000 in
theorem spec_ProofText.calls (k : Nat) (A0 : Option Addr) (c0 : Nat) (l0 : List (S61)) (r1 : ByteArray) (r2 : Int) (w : World) (hr0 : Kd.C k61 w A0 l0.length l0) (hc0 : l0.length ≤ c0) (h : spec_ProofText.f k l0 = some (r1, r2)) :
    Calls Tryd.prog 11 #[.slice A0 l0.length c0] w fun e w' => e = .returned (.tuple #[.string r1, .int .i64 r2]) ∧ Below w.heap.size w w' := by
  have HR0 := Aside0.mk hr0
  have HC0 := Aside0.mk hc0
  clear hr0 hc0
  have HB := Aside0.mk (Below.refl w.heap.size w)
  have H : (if (l0.length : Int) > 4096 then (some ((⟨#[]⟩ : ByteArray), 2)) else ((spec_l03Steps.f k l0 40).bind fun t119 => (if t119 = true then ((spec_l03Text.f l0).bind fun t120 => (some (t120, 0))) else (some ((⟨#[]⟩ : ByteArray), 1))))) = some (r1, r2) := h
  clear h
  by_cases c2 : (l0.length : Int) > 4096
  · rw [if_pos c2] at H
    have c2b0 : decide (4096 < (l0.length : Int)) = true := decide_eq_true c2
    have c2b1 : decide (4096 < l0.length) = true := decide_eq_true (by omega)
    clear c2
    simp only [Option.some.injEq, Prod.mk.injEq] at H
    obtain ⟨rfl, rfl⟩ := H
    go_enter Tryd.func11, Tryd.ntmps11
    go_wp2
    go_ret2
    exact ⟨by first | rfl | (simp [errW_none, errW_some] <;> rfl) | (simp [*, errW_none, errW_some] <;> rfl), by repeat (first | (with_reducible first | exact HB.out | apply below_alloc | apply pw_below_drewN | apply below_drew1) | exact HB.out)⟩
  · rw [if_neg c2] at H
    have c2b0 : decide (4096 < (l0.length : Int)) = false := decide_eq_false c2
    have c2b1 : decide (4096 < l0.length) = false := decide_eq_false (by omega)
    clear c2
    replace H := Option.bind_eq_some_iff.mp H
    obtain ⟨t119, A30, H⟩ := H
    replace H : (if t119 = true then ((spec_l03Text.f l0).bind fun t120 => (some (t120, 0))) else (some ((⟨#[]⟩ : ByteArray), 1))) = some (r1, r2) := H
    have A3 := Aside0.mk A30
    clear A30
    by_cases c4 : t119 = true
    · subst c4
      have H1 : ((spec_l03Text.f l0).bind fun t120 => (some (t120, 0))) = some (r1, r2) := by rw [if_pos rfl] at H; exact H
      clear H
      have H := H1
      clear H1
      replace H := Option.bind_eq_some_iff.mp H
      obtain ⟨t120, A50, H⟩ := H
      replace H : (some (t120, 0)) = some (r1, r2) := H
      have A5 := Aside0.mk A50
      clear A50
      simp only [Option.some.injEq, Prod.mk.injEq] at H
      obtain ⟨rfl, rfl⟩ := H
      go_enter Tryd.func11, Tryd.ntmps11
      go_wp2_with (first | ((with_reducible refine gate_callee (f := 26) rfl ?_); refine goesL_ (some 8) rfl rfl Tryd.func26 (by kernel_rfl) rfl #[.slice A0 l0.length c0, .int .i64 40] rfl (by (try simp only [List.map_toArray, List.map_cons, List.map_nil]); first | done | rfl | (simp only [List.length_drop, List.length_take]; rfl)) ?_; (with_reducible refine (spec_l03Steps.calls k _ _ l0 40 true _ ?side1 ?side2 A3.out).mono ?_); (case side1 => repeat (first | exact HR0.out | (with_reducible refine Kd.C_alloc ?_ _) | (with_reducible refine Kd.C_drewN ?_ _) | (with_reducible refine Kd.C_drew ?_))); (case side2 => exact HC0.out); rintro e w' ⟨rfl, ⟨nd, rfl⟩⟩; refine ⟨_, rfl, ?_⟩) | ((with_reducible refine gate_callee (f := 27) rfl ?_); refine goesL_ (some 11) rfl rfl Tryd.func27 (by kernel_rfl) rfl #[.slice A0 l0.length c0] rfl (by (try simp only [List.map_toArray, List.map_cons, List.map_nil]); first | done | rfl | (simp only [List.length_drop, List.length_take]; rfl)) ?_; (with_reducible refine (spec_l03Text.calls _ _ l0 t120 _ ?side1 ?side2 A5.out).mono ?_); (case side1 => repeat (first | exact HR0.out | (with_reducible refine Kd.C_alloc ?_ _) | (with_reducible refine Kd.C_drewN ?_ _) | (with_reducible refine Kd.C_drew ?_))); (case side2 => exact HC0.out); rintro e w6 ⟨rfl, hb⟩; refine ⟨_, rfl, ?_⟩; have n0_ := Aside0.mk (below_step (by repeat (first | (with_reducible first | exact HB.out | apply below_alloc | apply pw_below_drewN | apply below_drew1) | exact HB.out)) hb); clear HB; have HB := n0_; clear n0_; (try clear hb); (try clear hb2); (try clear hk); (try clear hi)))
      go_ret2
      exact ⟨by first | rfl | (simp [errW_none, errW_some] <;> rfl) | (simp [*, errW_none, errW_some] <;> rfl), by repeat (first | (with_reducible first | exact HB.out | apply below_alloc | apply pw_below_drewN | apply below_drew1) | exact HB.out)⟩
    · replace c4 := Bool.eq_false_iff.mpr c4
      subst c4
      have H1 : (some ((⟨#[]⟩ : ByteArray), 1)) = some (r1, r2) := by rw [if_neg (show ¬ (false = true) by decide)] at H; exact H
      clear H
      have H := H1
      clear H1
      simp only [Option.some.injEq, Prod.mk.injEq] at H
      obtain ⟨rfl, rfl⟩ := H
      go_enter Tryd.func11, Tryd.ntmps11
      go_wp2_with (first | ((with_reducible refine gate_callee (f := 26) rfl ?_); refine goesL_ (some 8) rfl rfl Tryd.func26 (by kernel_rfl) rfl #[.slice A0 l0.length c0, .int .i64 40] rfl (by (try simp only [List.map_toArray, List.map_cons, List.map_nil]); first | done | rfl | (simp only [List.length_drop, List.length_take]; rfl)) ?_; (with_reducible refine (spec_l03Steps.calls k _ _ l0 40 false _ ?side1 ?side2 A3.out).mono ?_); (case side1 => repeat (first | exact HR0.out | (with_reducible refine Kd.C_alloc ?_ _) | (with_reducible refine Kd.C_drewN ?_ _) | (with_reducible refine Kd.C_drew ?_))); (case side2 => exact HC0.out); rintro e w' ⟨rfl, ⟨nd, rfl⟩⟩; refine ⟨_, rfl, ?_⟩))
      go_ret2
      exact ⟨by first | rfl | (simp [errW_none, errW_some] <;> rfl) | (simp [*, errW_none, errW_some] <;> rfl), by repeat (first | (with_reducible first | exact HB.out | apply below_alloc | apply pw_below_drewN | apply below_drew1) | exact HB.out)⟩

end Go.Proofs.YtelfahcjeldliaaDoor.PFnExactProofText
