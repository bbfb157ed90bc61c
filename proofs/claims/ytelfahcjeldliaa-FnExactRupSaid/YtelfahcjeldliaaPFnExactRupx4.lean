/- WRITTEN BY A PROGRAM OF THIS SESSION (wip/xprint) OVER THE KIT's PRINT, FOR THIS CLAIM: for Go functions that the law reaches, one Lean function each and the proof that Go's call comes to its answer. No conditions but those that each theorem names. -/
import Derived.Test.YtelfahcjeldliaaPFnExactRupx0
import Derived.Test.YtelfahcjeldliaaPFnExactRupx3
namespace Go.Proofs.Ytelfahcjeldliaa.PFnExactRup
open Go.RowKit Go.Proofs.YtelfahcjeldliaaW.PrintWords Go.Proofs.YtelfahcjeldliaaW.PrintLast Go.Proofs.YtelfahcjeldliaaW.PrintMore
attribute [local go_sem] max2_int min2_int max_two min_two max_three min_three max_four min_four   -- for this text's walks alone
set_option linter.unusedVariables false
set_option linter.unusedSimpArgs false

/-! ### impl_isLiteral: function 68 -/
def impl_isLiteral.f (a0 : Int) (a1 : Int) : Option (Bool) := if a0 = 0 then (some false) else ((impl_within.f a0 (wrap64 (-a1)) a1).bind fun t178 => (some t178))
set_option maxHeartbeats 8000000 in
set_option maxRecDepth 100000 in
theorem impl_isLiteral.calls (a0 : Int) (a1 : Int) (r : Bool) (w : World) (h : impl_isLiteral.f a0 a1 = some r) :
    Calls Try.prog 68 #[.int .i64 a0, .int .i64 a1] w fun e w' => e = .returned (.bool r) ∧ Drawn0 w w' := by
  have H : (if a0 = 0 then (some false) else ((impl_within.f a0 (wrap64 (-a1)) a1).bind fun t178 => (some t178))) = some r := h
  clear h
  by_cases c3 : a0 = 0
  · rw [if_pos c3] at H
    have c3b0 : (a0 == 0) = true := beq_iff_eq.mpr c3
    have c3b1 : (a0 != 0) = false := bne_eq_false_iff_eq.mpr c3
    clear c3
    obtain rfl := Option.some.inj H
    go_enter Try.func68, Try.ntmps68
    go_wp2
    go_ret
    exact ⟨by first | rfl | (simp; done) | (simp [*]; done), by repeat (first | exact Drawn0.refl _ | apply Drawn0.step)⟩
  · rw [if_neg c3] at H
    have c3b0 : (a0 == 0) = false := beq_eq_false_iff_ne.mpr c3
    have c3b1 : (a0 != 0) = true := bne_iff_ne.mpr c3
    replace H := Option.bind_eq_some_iff.mp H
    obtain ⟨t178, A40, H⟩ := H
    replace H : (some t178) = some r := H
    have A4 := Aside0.mk A40
    clear A40
    obtain rfl := Option.some.inj H
    go_enter Try.func68, Try.ntmps68
    go_wp2_with (first | (go_at_call 83; (with_reducible refine (impl_within.calls a0 (wrap64 (-a1)) a1 t178 _ A4.out).mono ?_); rintro e w' ⟨rfl, ⟨nd, rfl⟩⟩))
    go_ret
    exact ⟨by first | rfl | (simp; done) | (simp [*]; done), by repeat (first | exact Drawn0.refl _ | apply Drawn0.step)⟩

-- NOT PRINTED: function 126 (slices_IndexFunc_int_int_126)

/-! ### slices_ContainsFunc_int_int_103: function 103 -/
/-- one of the first n places at which p holds -/
def anyI (p : Nat → Bool) : Nat → Bool
  | 0 => false
  | n + 1 => anyI p n || p n
theorem anyI_none {p : Nat → Bool} : ∀ {n : Nat}, (∀ j, j < n → p j = false) → anyI p n = false
  | 0, _ => rfl
  | n + 1, h => by rw [anyI, anyI_none (fun j hj => h j (by omega)), h n (by omega)]; rfl
theorem anyI_some {p : Nat → Bool} : ∀ {n k : Nat}, k < n → p k = true → anyI p n = true
  | 0, _, h, _ => by omega
  | n + 1, k, h, hp => by
    rw [anyI]
    by_cases e : k = n
    · subst e; rw [hp]; simp
    · rw [anyI_some (show k < n by omega) hp]; simp
theorem anyI_list {α : Type} (q : α → Bool) (d : α) (p : Nat → Bool) : ∀ (l : List α), (∀ i, i < l.length → p i = q (l.getD i d)) → anyI p l.length = l.any q := by
  intro l h
  cases hq : l.any q with
  | true =>
    obtain ⟨x, hx, hqx⟩ := List.any_eq_true.1 hq
    obtain ⟨i, hi, rfl⟩ := List.mem_iff_getElem.1 hx
    exact anyI_some hi (by rw [h i hi]; simpa [List.getD, hi] using hqx)
  | false =>
    refine anyI_none (fun j hj => ?_)
    rw [h j hj]
    have := List.any_eq_false.1 hq (l.getD j d) (by simp [List.getD, hj])
    simpa using this
set_option maxHeartbeats 4000000 in
theorem idxInt (p : Nat → Bool) (V : Nat → Value) (g : Nat) (lb : Array Value) (eg : ∀ args w, (callFunc g args).run Try.prog w = .ok (.enter g args) w) (A : Option Addr) (n c : Nat) (w : World) (hn : n ≤ 9223372036854775807)
    (hc : 0 < n → ∃ ad, A = some ad ∧ ∀ i, i < n → w.cell? (ad.add i) = some (V i))
    (hp : ∀ i, i < n → ∀ W, Below w.heap.size w W → Calls Try.prog g (#[V i] ++ lb) W fun e W' => e = .returned (.bool (p i)) ∧ Below W.heap.size W W') :
    Calls Try.prog 126 #[.slice A n c, .func (.func g) #[] lb] w fun e w' => (∃ r : Int, e = .returned (.int .i64 r) ∧ decide (0 ≤ r) = anyI p n) ∧ Below w.heap.size w w' := by
  have HP := Aside0.mk hp
  have HC := Aside0.mk hc
  clear hp hc
  go_enter Try.func126, Try.ntmps126
  go_wp2
  go_loopg [5, 8] n (fun gg _ s8 wr => ∃ kk : Nat, kk ≤ n ∧ n - kk ≤ gg ∧ s8 = .int .i64 kk ∧ Aside0 (Below w.heap.size w wr) ∧ Aside0 (∀ j, j < kk → p j = false))
  case atStart => exact ⟨0, Nat.zero_le _, by omega, rfl, ⟨Below.refl _ _⟩, ⟨fun j hj => absurd hj (Nat.not_lt_zero _)⟩⟩
  case round =>
    obtain ⟨kk, hkk, hg, rfl, HB, HN⟩ := hrel
    by_cases hlt : kk < n
    · have hltz : (kk : Int) < (n : Int) := by omega
      obtain ⟨ad, ea, hcell0⟩ := HC.out (by omega)
      have hcell := (HB.out.cell (World.block_lt_of_cell? w _ (hcell0 kk hlt))).trans (hcell0 kk hlt)
      clear hcell0
      cases ea
      have hcall := HP.out kk hlt _ HB.out
      cases hq : p kk with
      | true =>
        rw [hq] at hcall
        have HQ := Aside0.mk hq
        clear hq
        go_wp2_with (go_at_fn g; refine hcall.mono ?_; rintro e w' ⟨rfl, hb⟩)
        go_ret
        refine ⟨⟨kk, rfl, ?_⟩, HB.out.trans (hb.mono HB.out.size)⟩
        rw [anyI_some hlt HQ.out, decide_eq_true (by omega)]
      | false =>
        rw [hq] at hcall
        have HQ := Aside0.mk hq
        clear hq
        go_wp2_with (go_at_fn g; refine hcall.mono ?_; rintro e w' ⟨rfl, hb⟩)
        go_roundg (n - (kk + 1))
        case measure => omega
        case rel =>
          refine ⟨kk + 1, by omega, by omega, by go_num, ⟨HB.out.trans (hb.mono HB.out.size)⟩, ⟨fun j hj => ?_⟩⟩
          by_cases e : j = kk
          · subst e
            exact HQ.out
          · exact HN.out j (by omega)
    · have hltz : ¬ (kk : Int) < (n : Int) := by omega
      have : kk = n := by omega
      subst this
      go_wp2
      go_ret
      refine ⟨⟨-1, rfl, ?_⟩, HB.out⟩
      rw [anyI_none HN.out]
      rfl
set_option maxHeartbeats 4000000 in
theorem anyInt (p : Nat → Bool) (V : Nat → Value) (g : Nat) (lb : Array Value) (eg : ∀ args w, (callFunc g args).run Try.prog w = .ok (.enter g args) w) (A : Option Addr) (n c : Nat) (w : World) (hn : n ≤ 9223372036854775807)
    (hc : 0 < n → ∃ ad, A = some ad ∧ ∀ i, i < n → w.cell? (ad.add i) = some (V i))
    (hp : ∀ i, i < n → ∀ W, Below w.heap.size w W → Calls Try.prog g (#[V i] ++ lb) W fun e W' => e = .returned (.bool (p i)) ∧ Below W.heap.size W W') :
    Calls Try.prog 103 #[.slice A n c, .func (.func g) #[] lb] w fun e w' => e = .returned (.bool (anyI p n)) ∧ Below w.heap.size w w' := by
  have hcall := idxInt p V g lb eg A n c w hn hc hp
  clear hp hc
  go_enter Try.func103, Try.ntmps103
  go_wp2_with (go_at_call 126; refine hcall.mono ?_; rintro e w' ⟨⟨r, rfl, hr⟩, hb⟩)
  go_ret
  exact ⟨by first | (rw [← hr]; rfl) | (rw [← hr]; simp), hb⟩

/-- over a row of numbers that is read -/
theorem anyIntL (q : Int → Bool) (g : Nat) (lb : Array Value) (eg : ∀ args w, (callFunc g args).run Try.prog w = .ok (.enter g args) w) (A : Option Addr) (l : List Int) (c : Nat) (w : World) (hr : Kd.C (Kd.int .i64) w A l.length l)
    (hp : ∀ x W, Below w.heap.size w W → Calls Try.prog g (#[.int .i64 x] ++ lb) W fun e W' => e = .returned (.bool (q x)) ∧ Below W.heap.size W W') :
    Calls Try.prog 103 #[.slice A l.length c, .func (.func g) #[] lb] w fun e w' => e = .returned (.bool (l.any q)) ∧ Below w.heap.size w w' := by
  have h := anyInt (fun i => q (l.getD i 0)) (fun i => .int .i64 (l.getD i 0)) g lb eg A l.length c w hr.2.1
    (fun hn => by
      obtain ⟨ad, ea, _⟩ := hr.2.2 hn
      refine ⟨ad, ea, fun i hi => ?_⟩
      obtain ⟨ad', ea', hx⟩ := Kd.at_int hr (i : Int) (by omega) (by omega)
      cases ea
      cases ea'
      exact hx)
    (fun i hi W hb => hp _ W hb)
  rwa [anyI_list q 0 _ l (fun i _ => rfl)] at h

/-- over a row of numbers that is read, its members alone -/
theorem anyIntL' (q : Int → Bool) (g : Nat) (lb : Array Value) (eg : ∀ args w, (callFunc g args).run Try.prog w = .ok (.enter g args) w) (A : Option Addr) (l : List Int) (c : Nat) (w : World) (hr : Kd.C (Kd.int .i64) w A l.length l)
    (hp : ∀ x, x ∈ l → ∀ W, Below w.heap.size w W → Calls Try.prog g (#[.int .i64 x] ++ lb) W fun e W' => e = .returned (.bool (q x)) ∧ Below W.heap.size W W') :
    Calls Try.prog 103 #[.slice A l.length c, .func (.func g) #[] lb] w fun e w' => e = .returned (.bool (l.any q)) ∧ Below w.heap.size w w' := by
  have h := anyInt (fun i => q (l.getD i 0)) (fun i => .int .i64 (l.getD i 0)) g lb eg A l.length c w hr.2.1
    (fun hn => by
      obtain ⟨ad, ea, _⟩ := hr.2.2 hn
      refine ⟨ad, ea, fun i hi => ?_⟩
      obtain ⟨ad', ea', hx⟩ := Kd.at_int hr (i : Int) (by omega) (by omega)
      cases ea
      cases ea'
      exact hx)
    (fun i hi W hb => hp _ (by simp [List.getD, hi]) W hb)
  rwa [anyI_list q 0 _ l (fun i _ => rfl)] at h

/-! ### impl_isClause: function 61 -/
/-- a literal of so many variables -/
def litB (x vars : Int) : Bool := decide (x ≠ 0) && (decide (wrap64 (-vars) ≤ x) && decide (x ≤ vars))
/-- a clause of so many variables -/
def clauseB (c : List Int) (vars : Int) : Bool := decide (c.length ≤ 12) && !(c.any fun x => !(litB x vars))
theorem lit_is (x vars : Int) : impl_isLiteral.f x vars = some (litB x vars) := by
  unfold impl_isLiteral.f impl_within.f litB
  by_cases h : x = 0
  · simp [h]
  · by_cases h2 : wrap64 (-vars) ≤ x <;> simp [h, h2]
set_option maxHeartbeats 4000000 in
set_option maxRecDepth 100000 in
theorem isClause_fn (x vars : Int) (B : Nat) (W : World) (hB : W.cell? ⟨B, 0, none⟩ = some (.int .i64 vars)) :
    Calls Try.prog 104 #[.int .i64 x, .pointer (some ⟨B, 0, none⟩)] W fun e W' => e = .returned (.bool (!(litB x vars))) ∧ Below W.heap.size W W' := by
  have hcall := fun V => impl_isLiteral.calls x vars _ V (lit_is x vars)
  generalize litB x vars = b at hcall ⊢
  go_enter Try.func104, Try.ntmps104
  go_wp2_with (go_at_call 68; refine (hcall _).mono ?_; rintro e w' ⟨rfl, hd⟩)
  go_ret
  exact ⟨rfl, hd.below⟩
def impl_isClause.f (l0 : List Int) (a1 : Int) : Option Bool := some (clauseB l0 a1)
set_option maxHeartbeats 4000000 in
set_option maxRecDepth 100000 in
theorem impl_isClause.calls (A0 : Option Addr) (c0 : Nat) (l0 : List Int) (a1 : Int) (r : Bool) (w : World) (hr0 : Kd.C (Kd.int .i64) w A0 l0.length l0) (hc0 : l0.length ≤ c0) (h : impl_isClause.f l0 a1 = some r) :
    Calls Try.prog 61 #[.slice A0 l0.length c0, .int .i64 a1] w fun e w' => e = .returned (.bool r) ∧ Below w.heap.size w w' := by
  obtain rfl : clauseB l0 a1 = r := Option.some.inj h
  clear h
  unfold clauseB
  have hbox : (w.alloc (.cells #[.int .i64 a1] 3)).cell? ⟨w.heap.size, 0, none⟩ = some (.int .i64 a1) := by simp
  have hB0 : Below w.heap.size w (w.alloc (.cells #[.int .i64 a1] 3)) := (Below.refl _ _).alloc (Nat.le_refl _) _
  have hcon := anyIntL (fun x => !(litB x a1)) 104 #[.pointer (some ⟨w.heap.size, 0, none⟩)] (enters_of Try.func104 (by kernel_rfl) rfl) A0 l0 c0 (w.alloc (.cells #[.int .i64 a1] 3)) (Kd.C_below hr0 hB0)
    (fun x W hb => isClause_fn _ _ _ _ ((hb.cell (p := ⟨w.heap.size, 0, none⟩) (by simp)).trans hbox))
  generalize (l0.any fun x => !(litB x a1)) = b at hcon ⊢
  clear hbox hr0
  by_cases hle : l0.length ≤ 12
  · rw [decide_eq_true hle, Bool.true_and]
    have hle2 : decide (l0.length ≤ 12) = true := decide_eq_true hle
    go_enter Try.func61, Try.ntmps61
    go_wp2_with (go_at_call 103; refine hcon.mono ?_; rintro e w' ⟨rfl, hb⟩)
    go_ret
    exact ⟨rfl, hB0.trans (hb.mono hB0.size)⟩
  · rw [decide_eq_false hle, Bool.false_and]
    have hle2 : decide (l0.length ≤ 12) = false := decide_eq_false hle
    have hle3 : 12 < l0.length := by omega
    clear hcon
    go_enter Try.func61, Try.ntmps61
    go_wp2
    go_ret
    exact ⟨rfl, hB0⟩

-- NOT PRINTED: function 124 (slices_IndexFunc_int_int_124)

/-! ### slices_ContainsFunc_int_int_98: function 98 -/
set_option maxHeartbeats 4000000 in
theorem idxInts (p : Nat → Bool) (V : Nat → Value) (g : Nat) (lb : Array Value) (eg : ∀ args w, (callFunc g args).run Try.prog w = .ok (.enter g args) w) (A : Option Addr) (n c : Nat) (w : World) (hn : n ≤ 9223372036854775807)
    (hc : 0 < n → ∃ ad, A = some ad ∧ ∀ i, i < n → w.cell? (ad.add i) = some (V i))
    (hp : ∀ i, i < n → ∀ W, Below w.heap.size w W → Calls Try.prog g (#[V i] ++ lb) W fun e W' => e = .returned (.bool (p i)) ∧ Below W.heap.size W W') :
    Calls Try.prog 124 #[.slice A n c, .func (.func g) #[] lb] w fun e w' => (∃ r : Int, e = .returned (.int .i64 r) ∧ decide (0 ≤ r) = anyI p n) ∧ Below w.heap.size w w' := by
  have HP := Aside0.mk hp
  have HC := Aside0.mk hc
  clear hp hc
  go_enter Try.func124, Try.ntmps124
  go_wp2
  go_loopg [5, 8] n (fun gg _ s8 wr => ∃ kk : Nat, kk ≤ n ∧ n - kk ≤ gg ∧ s8 = .int .i64 kk ∧ Aside0 (Below w.heap.size w wr) ∧ Aside0 (∀ j, j < kk → p j = false))
  case atStart => exact ⟨0, Nat.zero_le _, by omega, rfl, ⟨Below.refl _ _⟩, ⟨fun j hj => absurd hj (Nat.not_lt_zero _)⟩⟩
  case round =>
    obtain ⟨kk, hkk, hg, rfl, HB, HN⟩ := hrel
    by_cases hlt : kk < n
    · have hltz : (kk : Int) < (n : Int) := by omega
      obtain ⟨ad, ea, hcell0⟩ := HC.out (by omega)
      have hcell := (HB.out.cell (World.block_lt_of_cell? w _ (hcell0 kk hlt))).trans (hcell0 kk hlt)
      clear hcell0
      cases ea
      have hcall := HP.out kk hlt _ HB.out
      cases hq : p kk with
      | true =>
        rw [hq] at hcall
        have HQ := Aside0.mk hq
        clear hq
        go_wp2_with (go_at_fn g; refine hcall.mono ?_; rintro e w' ⟨rfl, hb⟩)
        go_ret
        refine ⟨⟨kk, rfl, ?_⟩, HB.out.trans (hb.mono HB.out.size)⟩
        rw [anyI_some hlt HQ.out, decide_eq_true (by omega)]
      | false =>
        rw [hq] at hcall
        have HQ := Aside0.mk hq
        clear hq
        go_wp2_with (go_at_fn g; refine hcall.mono ?_; rintro e w' ⟨rfl, hb⟩)
        go_roundg (n - (kk + 1))
        case measure => omega
        case rel =>
          refine ⟨kk + 1, by omega, by omega, by go_num, ⟨HB.out.trans (hb.mono HB.out.size)⟩, ⟨fun j hj => ?_⟩⟩
          by_cases e : j = kk
          · subst e
            exact HQ.out
          · exact HN.out j (by omega)
    · have hltz : ¬ (kk : Int) < (n : Int) := by omega
      have : kk = n := by omega
      subst this
      go_wp2
      go_ret
      refine ⟨⟨-1, rfl, ?_⟩, HB.out⟩
      rw [anyI_none HN.out]
      rfl
set_option maxHeartbeats 4000000 in
theorem anyInts (p : Nat → Bool) (V : Nat → Value) (g : Nat) (lb : Array Value) (eg : ∀ args w, (callFunc g args).run Try.prog w = .ok (.enter g args) w) (A : Option Addr) (n c : Nat) (w : World) (hn : n ≤ 9223372036854775807)
    (hc : 0 < n → ∃ ad, A = some ad ∧ ∀ i, i < n → w.cell? (ad.add i) = some (V i))
    (hp : ∀ i, i < n → ∀ W, Below w.heap.size w W → Calls Try.prog g (#[V i] ++ lb) W fun e W' => e = .returned (.bool (p i)) ∧ Below W.heap.size W W') :
    Calls Try.prog 98 #[.slice A n c, .func (.func g) #[] lb] w fun e w' => e = .returned (.bool (anyI p n)) ∧ Below w.heap.size w w' := by
  have hcall := idxInts p V g lb eg A n c w hn hc hp
  clear hp hc
  go_enter Try.func98, Try.ntmps98
  go_wp2_with (go_at_call 124; refine hcall.mono ?_; rintro e w' ⟨⟨r, rfl, hr⟩, hb⟩)
  go_ret
  exact ⟨by first | (rw [← hr]; rfl) | (rw [← hr]; simp), hb⟩

/-- over a row of rows of numbers that is read -/
theorem anyIntsL (q : List Int → Bool) (g : Nat) (lb : Array Value) (eg : ∀ args w, (callFunc g args).run Try.prog w = .ok (.enter g args) w) (A : Option Addr) (l : List (List Int)) (c : Nat) (w : World) (hr : Kd.C (Kd.slice 3 (Kd.int .i64)) w A l.length l)
    (hp : ∀ A0 c0 (x : List Int) W, Below w.heap.size w W → Kd.C (Kd.int .i64) W A0 x.length x → x.length ≤ c0 → Calls Try.prog g (#[.slice A0 x.length c0] ++ lb) W fun e W' => e = .returned (.bool (q x)) ∧ Below W.heap.size W W') :
    Calls Try.prog 98 #[.slice A l.length c, .func (.func g) #[] lb] w fun e w' => e = .returned (.bool (l.any q)) ∧ Below w.heap.size w w' := by
  have hV : ∀ i, i < l.length → ∃ v : Value, (∃ ad, A = some ad ∧ w.cell? (ad.add i) = some v) ∧ ∃ A0 c0, v = .slice A0 (l.getD i []).length c0 ∧ (l.getD i []).length ≤ c0 ∧ Kd.C (Kd.int .i64) w A0 (l.getD i []).length (l.getD i []) := by
    intro i hi
    obtain ⟨ad, A0, c0, ea, hx, hl, hC⟩ := at_L1 hr (i : Int) (by omega) (by omega)
    exact ⟨_, ⟨ad, ea, hx⟩, A0, c0, rfl, hl, hC⟩
  have hinh : Inhabited Value := ⟨.bool false⟩
  obtain ⟨V, hV⟩ := Go.Deep.choose_lt hV
  have h := anyInts (fun i => q (l.getD i [])) V g lb eg A l.length c w hr.2.1
    (fun hn => by
      obtain ⟨ad, ea, _⟩ := hr.2.2 hn
      refine ⟨ad, ea, fun i hi => ?_⟩
      obtain ⟨⟨ad', ea', hx⟩, _⟩ := hV i hi
      cases ea
      cases ea'
      exact hx)
    (fun i hi W hb => by
      obtain ⟨_, A0, c0, ev, hl, hC⟩ := hV i hi
      rw [ev]
      exact hp A0 c0 _ W hb (Kd.C_below hC hb) hl)
  rwa [anyI_list q [] _ l (fun i _ => rfl)] at h

/-- over a row of rows of numbers that is read, its members alone -/
theorem anyIntsL' (q : List Int → Bool) (g : Nat) (lb : Array Value) (eg : ∀ args w, (callFunc g args).run Try.prog w = .ok (.enter g args) w) (A : Option Addr) (l : List (List Int)) (c : Nat) (w : World) (hr : Kd.C (Kd.slice 3 (Kd.int .i64)) w A l.length l)
    (hp : ∀ A0 c0 (x : List Int), x ∈ l → ∀ W, Below w.heap.size w W → Kd.C (Kd.int .i64) W A0 x.length x → x.length ≤ c0 → Calls Try.prog g (#[.slice A0 x.length c0] ++ lb) W fun e W' => e = .returned (.bool (q x)) ∧ Below W.heap.size W W') :
    Calls Try.prog 98 #[.slice A l.length c, .func (.func g) #[] lb] w fun e w' => e = .returned (.bool (l.any q)) ∧ Below w.heap.size w w' := by
  have hV : ∀ i, i < l.length → ∃ v : Value, (∃ ad, A = some ad ∧ w.cell? (ad.add i) = some v) ∧ ∃ A0 c0, v = .slice A0 (l.getD i []).length c0 ∧ (l.getD i []).length ≤ c0 ∧ Kd.C (Kd.int .i64) w A0 (l.getD i []).length (l.getD i []) := by
    intro i hi
    obtain ⟨ad, A0, c0, ea, hx, hl, hC⟩ := at_L1 hr (i : Int) (by omega) (by omega)
    exact ⟨_, ⟨ad, ea, hx⟩, A0, c0, rfl, hl, hC⟩
  have hinh : Inhabited Value := ⟨.bool false⟩
  obtain ⟨V, hV⟩ := Go.Deep.choose_lt hV
  have h := anyInts (fun i => q (l.getD i [])) V g lb eg A l.length c w hr.2.1
    (fun hn => by
      obtain ⟨ad, ea, _⟩ := hr.2.2 hn
      refine ⟨ad, ea, fun i hi => ?_⟩
      obtain ⟨⟨ad', ea', hx⟩, _⟩ := hV i hi
      cases ea
      cases ea'
      exact hx)
    (fun i hi W hb => by
      obtain ⟨_, A0, c0, ev, hl, hC⟩ := hV i hi
      rw [ev]
      exact hp A0 c0 _ (by simp [List.getD, hi]) W hb (Kd.C_below hC hb) hl)
  rwa [anyI_list q [] _ l (fun i _ => rfl)] at h

/-! ### impl_isCnf: function 54 -/
/-- a right formula -/
def cnfB (vars : Int) (cs : List (List Int)) : Bool := decide (0 ≤ vars) && (decide (vars ≤ 40) && (decide (cs.length ≤ 300) && !(cs.any fun c => !(clauseB c vars))))
theorem below_drewN' {B : Nat} {a w : World} (h : Below B a w) (q : Nat) : Below B a (w.drewN q) := ⟨h.os, h.tape, h.output, h.size, h.block⟩
set_option maxHeartbeats 4000000 in
set_option maxRecDepth 100000 in
theorem isCnf_fn (A0 : Option Addr) (c0 : Nat) (l0 : List Int) (vars : Int) (B : Nat) (W : World) (hr0 : Kd.C (Kd.int .i64) W A0 l0.length l0) (hc0 : l0.length ≤ c0) (hB : W.cell? ⟨B, 0, none⟩ = some (.int .i64 vars)) :
    Calls Try.prog 99 #[.slice A0 l0.length c0, .pointer (some ⟨B, 0, none⟩)] W fun e W' => e = .returned (.bool (!(clauseB l0 vars))) ∧ Below W.heap.size W W' := by
  have hcall := fun V hV => impl_isClause.calls A0 c0 l0 vars _ V hV hc0 rfl
  have HR := Aside0.mk hr0
  clear hr0
  generalize clauseB l0 vars = b at hcall ⊢
  go_enter Try.func99, Try.ntmps99
  go_wp2_with (go_at_call 61; refine (hcall _ HR.out).mono ?_; rintro e w' ⟨rfl, hb⟩)
  go_ret
  exact ⟨rfl, hb⟩
def impl_isCnf.f (a0_0 : Int) (l0_1 : List (List Int)) : Option Bool := some (cnfB a0_0 l0_1)
set_option maxHeartbeats 4000000 in
set_option maxRecDepth 100000 in
theorem impl_isCnf.calls (a0_0 : Int) (A0_1 : Option Addr) (c0_1 : Nat) (l0_1 : List (List Int)) (r : Bool) (w : World) (hr0_1 : Kd.C (Kd.slice 3 (Kd.int .i64)) w A0_1 l0_1.length l0_1) (hc0_1 : l0_1.length ≤ c0_1) (h : impl_isCnf.f a0_0 l0_1 = some r) :
    Calls Try.prog 54 #[.agg #[.int .i64 a0_0, .slice A0_1 l0_1.length c0_1]] w fun e w' => e = .returned (.bool r) ∧ Below w.heap.size w w' := by
  obtain rfl : cnfB a0_0 l0_1 = r := Option.some.inj h
  clear h
  unfold cnfB
  have hu := Try.underlying30
  have hwi : ∀ V, Calls Try.prog 83 #[.int .i64 a0_0, .int .i64 0, .int .i64 40] V fun e V' => e = .returned (.bool (decide (0 ≤ a0_0) && decide (a0_0 ≤ 40))) ∧ Drawn0 V V' := fun V =>
    impl_within.calls a0_0 0 40 _ V (by
      unfold impl_within.f
      by_cases h : a0_0 ≥ 0
      · rw [if_pos h, decide_eq_true h, Bool.true_and]
      · rw [if_neg h, decide_eq_false h, Bool.false_and])
  have hcon := fun (W : World) (hbW : W.cell? ⟨w.heap.size, 0, none⟩ = some (.int .i64 a0_0)) (hlt : w.heap.size < W.heap.size) (hr : Kd.C (Kd.slice 3 (Kd.int .i64)) W A0_1 l0_1.length l0_1) =>
    anyIntsL (fun c => !(clauseB c a0_0)) 99 #[.pointer (some ⟨w.heap.size, 0, none⟩)] (enters_of Try.func99 (by kernel_rfl) rfl) A0_1 l0_1 c0_1 W hr
      (fun A0 c0 x W' hb hC hc => isCnf_fn A0 c0 x a0_0 _ W' hC hc ((hb.cell (p := ⟨w.heap.size, 0, none⟩) hlt).trans hbW))
  have hB0 : Below w.heap.size w (w.alloc (.cells #[.int .i64 a0_0, .slice A0_1 l0_1.length c0_1] 30)) := (Below.refl _ _).alloc (Nat.le_refl _) _
  have HR := Aside0.mk hr0_1
  have HC := Aside0.mk hc0_1
  clear hr0_1 hc0_1
  generalize (l0_1.any fun c => !(clauseB c a0_0)) = b at hcon ⊢
  cases hv : (decide (0 ≤ a0_0) && decide (a0_0 ≤ 40)) with
  | false =>
    have e1 : (decide (0 ≤ a0_0) && (decide (a0_0 ≤ 40) && (decide (l0_1.length ≤ 300) && !b))) = false := by rw [← Bool.and_assoc, hv, Bool.false_and]
    rw [e1]
    rw [hv] at hwi
    clear hcon hv e1
    go_enter Try.func54, Try.ntmps54
    go_wp2_with (go_at_call 83; refine (hwi _).mono ?_; rintro e w' ⟨rfl, ⟨nd, rfl⟩⟩)
    go_ret
    exact ⟨rfl, below_drewN' hB0 _⟩
  | true =>
    have e1 : (decide (0 ≤ a0_0) && (decide (a0_0 ≤ 40) && (decide (l0_1.length ≤ 300) && !b))) = (decide (l0_1.length ≤ 300) && !b) := by rw [← Bool.and_assoc, hv, Bool.true_and]
    rw [e1]
    rw [hv] at hwi
    clear hv e1
    by_cases hle : l0_1.length ≤ 300
    · have hle2 : decide (l0_1.length ≤ 300) = true := decide_eq_true hle
      rw [hle2, Bool.true_and]
      go_enter Try.func54, Try.ntmps54
      go_wp2_with (first | (go_at_call 83; refine (hwi _).mono ?_; rintro e w' ⟨rfl, ⟨nd, rfl⟩⟩) | (go_at_call 98; refine (hcon _ (by simp) (by simp) (Kd.C_below HR.out (below_drewN' hB0 _))).mono ?_; rintro e w' ⟨rfl, hb⟩))
      go_ret
      exact ⟨rfl, (below_drewN' hB0 _).trans (hb.mono (below_drewN' hB0 _).size)⟩
    · have hle2 : decide (l0_1.length ≤ 300) = false := decide_eq_false hle
      rw [hle2, Bool.false_and]
      have hle3 : 300 < l0_1.length := by omega
      clear hcon
      go_enter Try.func54, Try.ntmps54
      go_wp2_with (go_at_call 83; refine (hwi _).mono ?_; rintro e w' ⟨rfl, ⟨nd, rfl⟩⟩)
      go_ret
      exact ⟨rfl, below_drewN' hB0 _⟩

/-! ### impl_state_is: function 69 -/
/-- a literal is true under values -/
def isL (vals : List Int) (x : Int) : Bool := if x < 0 then rd vals (-x) == -1 else rd vals x == 1
/-- the values with a literal made true -/
def setL (vals : List Int) (x : Int) : List Int := if x < 0 then vals.set (-x).toNat (-1) else vals.set x.toNat 1
theorem setL_length (vals : List Int) (x : Int) : (setL vals x).length = vals.length := by
  unfold setL
  split <;> simp
/-- the literal that a clause makes true, and whether all its literals are false -/
def unitL (vals : List Int) : List Int → Int → Int × Bool
  | [], one => (one, one == 0)
  | x :: r, one => if isL vals x = true then (0, false) else if isL vals (-x) = true then unitL vals r one else if x = one then unitL vals r one else if one = 0 then unitL vals r x else (0, false)
/-- literals that the values have -/
def fitL (n : Nat) (c : List Int) : Bool := c.all fun x => decide (x.natAbs < n)
theorem fitL_at {n : Nat} {c : List Int} (h : fitL n c = true) (k : Nat) (hk : k < c.length) : c[k].natAbs < n := by
  have := List.all_eq_true.1 h c[k] (List.getElem_mem hk)
  exact of_decide_eq_true this
set_option maxHeartbeats 4000000 in
theorem is_any (g : Nat) (vals : List Int) (A : Option Addr) (c : Nat) (x : Int) (W : World) (hs : W.cell? ⟨g, 2, none⟩ = some (.slice A vals.length c)) (hC : Kd.C (Kd.int .i64) W A vals.length vals) (hx : x.natAbs < vals.length) (hn : vals.length ≤ 4096) :
    Calls Try.prog 69 #[.pointer (some ⟨g, 0, none⟩), .int .i64 x] W fun e W' => e = .returned (.bool (isL vals x)) ∧ W' = W := by
  unfold isL
  by_cases h : x < 0
  · rw [if_pos h]
    have e1 : IntKind.i64.wrap (-x) = -x := IntWalk.i64_in _ (by omega)
    obtain ⟨ad, ea, hc⟩ := Kd.at_int hC (-x) (by omega) (by omega)
    subst ea
    have p0 : 0 ≤ -x := by omega
    have p1 : -x < (vals.length : Int) := by omega
    clear hC
    go_enter Try.func69, Try.ntmps69
    go_wp2
    go_ret
    exact ⟨rfl, rfl⟩
  · rw [if_neg h]
    obtain ⟨ad, ea, hc⟩ := Kd.at_int hC x (by omega) (by omega)
    subst ea
    have p0 : 0 ≤ x := by omega
    have p1 : x < (vals.length : Int) := by omega
    clear hC
    go_enter Try.func69, Try.ntmps69
    go_wp2
    go_ret
    exact ⟨rfl, rfl⟩

/-! ### impl_state_set: function 70 -/
set_option maxHeartbeats 4000000 in
theorem set_any (g b : Nat) (n c : Nat) (x old : Int) (W : World) (hs : W.cell? ⟨g, 2, none⟩ = some (.slice (some ⟨b, 0, none⟩) n c)) (hx : x.natAbs < n) (hn : n ≤ 4096) (hc : W.cell? ⟨b, x.natAbs, none⟩ = some (.int .i64 old)) (hf : W.frozen? ⟨b, x.natAbs, none⟩ = false) :
    Calls Try.prog 70 #[.pointer (some ⟨g, 0, none⟩), .int .i64 x] W fun e W' => e = .returned (.tuple #[]) ∧ W' = W.setCell ⟨b, x.natAbs, none⟩ (.int .i64 (if x < 0 then -1 else 1)) := by
  by_cases h : x < 0
  · rw [if_pos h]
    have e1 : IntKind.i64.wrap (-x) = -x := IntWalk.i64_in _ (by omega)
    have e2 : x.natAbs = (-x).toNat := by omega
    rw [e2] at hc hf ⊢
    have p0 : 0 ≤ -x := by omega
    have p1 : -x < (n : Int) := by omega
    clear e2 hx
    go_enter Try.func70, Try.ntmps70
    go_wp2
    first | go_end0 | ((try simp only [Exit.inBlock, Exit.then]); refine bodyPost_ret (results_none rfl _ _ _) rfl ?_)
    exact ⟨rfl, rfl⟩
  · rw [if_neg h]
    have e2 : x.natAbs = x.toNat := by omega
    rw [e2] at hc hf ⊢
    have p0 : 0 ≤ x := by omega
    have p1 : x < (n : Int) := by omega
    clear e2 hx
    go_enter Try.func70, Try.ntmps70
    go_wp2
    first | go_end0 | ((try simp only [Exit.inBlock, Exit.then]); refine bodyPost_ret (results_none rfl _ _ _) rfl ?_)
    exact ⟨rfl, rfl⟩

/-! ### impl_state_unit: function 106 -/
set_option maxHeartbeats 8000000 in
set_option maxRecDepth 100000 in
theorem unit_any (g : Nat) (vals : List Int) (A : Option Addr) (c : Nat) (A1 : Option Addr) (c1 : Nat) (l : List Int) (W : World) (hs : W.cell? ⟨g, 2, none⟩ = some (.slice A vals.length c)) (hC : Kd.C (Kd.int .i64) W A vals.length vals) (hl : Kd.C (Kd.int .i64) W A1 l.length l) (hfit : fitL vals.length l = true) (hn : vals.length ≤ 4096) :
    Calls Try.prog 106 #[.pointer (some ⟨g, 0, none⟩), .slice A1 l.length c1] W fun e W' => e = .returned (.tuple #[.int .i64 (unitL vals l 0).1, .bool (unitL vals l 0).2]) ∧ W' = W := by
  have his := fun x hx => is_any g vals A c x W hs hC hx hn
  have HN := Aside0.mk hn
  have HF := Aside0.mk hfit
  have HL := Aside0.mk hl
  have hmax : l.length ≤ 9223372036854775807 := Kd.C_max hl
  clear hs hC hl hfit hn
  have HI := Aside0.mk his
  clear his
  obtain ⟨r, hr⟩ : ∃ r, unitL vals l 0 = r := ⟨_, rfl⟩
  rw [hr]
  have H' : Aside0 (unitL vals (l.drop 0) 0 = r) := ⟨by rw [List.drop_zero]; exact hr⟩
  clear hr
  go_enter Try.func106, Try.ntmps106
  go_wp2
  go_loopg [6, 11] l.length (fun gg v6 v11 wr => ∃ (one : Int) (kk : Nat), v6 = .int .i64 one ∧ v11 = .int .i64 kk ∧ kk ≤ l.length ∧ l.length - kk ≤ gg ∧ Aside0 (unitL vals (l.drop kk) one = r) ∧ wr = W)
  case atStart => exact ⟨0, 0, rfl, rfl, Nat.zero_le _, by omega, H', rfl⟩
  case round =>
    clear H'
    obtain ⟨one, kk, rfl, rfl, hk, hg, HA, rfl⟩ := hrel
    by_cases hlt : kk < l.length
    · have hltz : (kk : Int) < (l.length : Int) := by omega
      have h0z : (0 : Int) ≤ (kk : Int) := by omega
      obtain ⟨ad, ea, hx⟩ := Kd.at_int HL.out (kk : Int) h0z hltz
      subst ea
      rw [Int.toNat_natCast] at hx
      have hrd : rd l (kk : Int) = l[kk] := by unfold rd; simp [List.getD, hlt]
      have hA := HA.out
      rw [List.drop_eq_getElem_cons hlt, unitL, ← hrd] at hA
      have hfx : (rd l (kk : Int)).natAbs < vals.length := by rw [hrd]; exact fitL_at HF.out kk hlt
      have ew : IntKind.i64.wrap ((kk : Int) + 1) = ((kk + 1 : Nat) : Int) := IntWalk.i64_in _ (by omega)
      clear hrd HA
      generalize rd l (kk : Int) = x at hx hA hfx
      have hn := HN.out
      have ex : IntKind.i64.wrap (-x) = -x := IntWalk.i64_in _ (by omega)
      have h1 := HI.out x hfx
      have h2 := HI.out (-x) (by omega)
      clear hfx hn
      cases ha : isL vals x with
      | true =>
        rw [ha, if_pos rfl] at hA
        rw [ha] at h1
        subst hA
        clear ha
        go_wp2_with (go_at_call 69; refine h1.mono ?_; rintro e w' ⟨rfl, rfl⟩)
        go_ret2
        exact ⟨rfl, rfl⟩
      | false =>
        rw [ha, if_neg Bool.false_ne_true] at hA
        rw [ha] at h1
        clear ha
        cases hb : isL vals (-x) with
        | true =>
          rw [hb, if_pos rfl] at hA
          rw [hb] at h2
          clear hb
          have HA2 := Aside0.mk hA
          clear hA
          go_wp2_with (go_at_call 69; first | (refine h1.mono ?_; rintro e w' ⟨rfl, rfl⟩; clear h1) | (refine h2.mono ?_; rintro e w' ⟨rfl, rfl⟩; clear h2))
          go_roundg (gk - 1)
          case measure => omega
          case rel => exact ⟨one, kk + 1, rfl, rfl, by omega, by omega, HA2, rfl⟩
        | false =>
          rw [hb, if_neg Bool.false_ne_true] at hA
          rw [hb] at h2
          clear hb
          by_cases hxo : x = one
          · rw [if_pos hxo] at hA
            subst hxo
            have HA2 := Aside0.mk hA
            clear hA
            go_wp2_with (go_at_call 69; first | (refine h1.mono ?_; rintro e w' ⟨rfl, rfl⟩; clear h1) | (refine h2.mono ?_; rintro e w' ⟨rfl, rfl⟩; clear h2))
            go_roundg (gk - 1)
            case measure => omega
            case rel => exact ⟨x, kk + 1, rfl, rfl, by omega, by omega, HA2, rfl⟩
          · rw [if_neg hxo] at hA
            have hxo2 : (x == one) = false := beq_eq_false_iff_ne.mpr hxo
            by_cases h0 : one = 0
            · rw [if_pos h0] at hA
              subst h0
              have HA2 := Aside0.mk hA
              clear hA
              go_wp2_with (go_at_call 69; first | (refine h1.mono ?_; rintro e w' ⟨rfl, rfl⟩; clear h1) | (refine h2.mono ?_; rintro e w' ⟨rfl, rfl⟩; clear h2))
              go_roundg (gk - 1)
              case measure => omega
              case rel => exact ⟨x, kk + 1, rfl, rfl, by omega, by omega, HA2, rfl⟩
            · rw [if_neg h0] at hA
              subst hA
              have h02 : (one != 0) = true := bne_iff_ne.mpr h0
              go_wp2_with (go_at_call 69; first | (refine h1.mono ?_; rintro e w' ⟨rfl, rfl⟩; clear h1) | (refine h2.mono ?_; rintro e w' ⟨rfl, rfl⟩; clear h2))
              go_ret2
              exact ⟨rfl, rfl⟩
    · have hA := HA.out
      obtain rfl : kk = l.length := by omega
      rw [List.drop_length, unitL] at hA
      subst hA
      go_wp2
      go_ret2
      exact ⟨rfl, rfl⟩

/-! ### impl_state_propagate: function 71 -/
/-- a state in memory: block g holds it, block b its values; its formula lies in w0 -/
structure ST (w0 W : World) (g b : Nat) (vars : Int) (A : Option Addr) (n c cv : Nat) (vals : List Int) : Prop where
  base : Below w0.heap.size w0 W
  old : w0.heap.size ≤ g
  blk : W.heap[g]? = some (.cells #[.int .i64 vars, .slice A n c, .slice (some ⟨b, 0, none⟩) vals.length cv] 112 (0, 0))
  own : Kd.R (Kd.int .i64) 3 W w0.heap.size (fun _ => True) (.slice (some ⟨b, 0, none⟩) vals.length cv) vals
section
variable {w0 W W2 : World} {g b : Nat} {vars : Int} {A : Option Addr} {n c cv : Nat} {vals : List Int}
theorem ST.ne (h : ST w0 W g b vars A n c cv vals) : g ≠ b := fun e => Kd.R_ne h.own h.blk (by decide) (by simp [Value.ownBlock, e])
theorem ST.glt (h : ST w0 W g b vars A n c cv vals) : g < W.heap.size := blk_lt h.blk
theorem ST.blt (h : ST w0 W g b vars A n c cv vals) : b < W.heap.size := Kd.R_lt h.own b (by simp [Value.ownBlock])
theorem ST.bold (h : ST w0 W g b vars A n c cv vals) : w0.heap.size ≤ b := Kd.R_base h.own b (by simp [Value.ownBlock])
theorem ST.cells (h : ST w0 W g b vars A n c cv vals) : W.cell? ⟨g, 0, none⟩ = some (.int .i64 vars) ∧ W.cell? ⟨g, 1, none⟩ = some (.slice A n c) ∧ W.cell? ⟨g, 2, none⟩ = some (.slice (some ⟨b, 0, none⟩) vals.length cv) :=
  ⟨(blk_cell h.blk 0).trans rfl, (blk_cell h.blk 1).trans rfl, (blk_cell h.blk 2).trans rfl⟩
theorem ST.reads (h : ST w0 W g b vars A n c cv vals) : Kd.C (Kd.int .i64) W (some ⟨b, 0, none⟩) vals.length vals := (Kd.R_reads' h.own).2.2
theorem ST.grown {row : Option Nat} (h : ST w0 W g b vars A n c cv vals) (hg : W.grownBy W2 row) (hB : Below w0.heap.size w0 W2) (h1 : row ≠ some g) (h2 : row ≠ some b) : ST w0 W2 g b vars A n c cv vals :=
  ⟨hB, h.old, (hg.block g h.glt (fun e => h1 e.symm)).trans h.blk, Kd.R_grown1 h.own rfl hg h2⟩
theorem ST.below (h : ST w0 W g b vars A n c cv vals) (hB : Below W.heap.size W W2) : ST w0 W2 g b vars A n c cv vals :=
  ⟨h.base.trans (hB.mono h.base.size), h.old, (hB.block g h.glt).trans h.blk, Kd.R_below h.own hB⟩
theorem ST.set (h : ST w0 W g b vars A n c cv vals) (x : Int) : ST w0 (W.setCell ⟨b, x.natAbs, none⟩ (.int .i64 (if x < 0 then -1 else 1))) g b vars A n c cv (setL vals x) := by
  have hb : ∀ u, (W.setCell ⟨b, x.natAbs, none⟩ u).heap[g]? = W.heap[g]? := fun u => Below.heap_setCell W ⟨b, x.natAbs, none⟩ u g h.ne
  have hs := below_set (j := x.natAbs) (v := .int .i64 (if x < 0 then -1 else 1)) h.base h.bold
  refine ⟨hs, h.old, ?_, ?_⟩
  · rw [hb, setL_length]
    exact h.blk
  · rw [setL_length]
    unfold setL
    by_cases hx : x < 0
    · rw [if_pos hx, if_pos hx]
      have e : x.natAbs = (-x).toNat := by omega
      rw [e]
      exact (Kd.R_putg h.own (-x) (-1)).1
    · rw [if_neg hx, if_neg hx]
      have e : x.natAbs = x.toNat := by omega
      rw [e]
      exact (Kd.R_putg h.own x 1).1
end
/-- the first clause that is false, and the first literal that a clause makes true -/
def scanL (vals : List Int) : List (List Int) → Nat → Int → Option Nat × Int
  | [], _, next => (none, next)
  | c :: r, i, next => if (unitL vals c 0).2 = true then (some i, next) else scanL vals r (i + 1) (if next = 0 then (unitL vals c 0).1 else next)
/-- what follows, and the clause that is false then -/
def propL (cs : List (List Int)) : Nat → List Int → List Int → Option (List Int × List Int × Int)
  | 0, _, _ => none
  | k + 1, vals, list => match scanL vals cs 0 0 with
    | (some i, _) => some (vals, list, (i : Int))
    | (none, next) => if next = 0 then some (vals, list, -1) else if list.length < 17592186044416 then propL cs k (setL vals next) (list ++ [next]) else none
theorem unitL_fit {n : Nat} (vals : List Int) : ∀ (c : List Int) (one : Int), fitL n c = true → one.natAbs < n → (unitL vals c one).1.natAbs < n
  | [], one, _, h => h
  | x :: r, one, hf, h => by
    unfold fitL at hf
    rw [List.all_cons, Bool.and_eq_true] at hf
    have hx := of_decide_eq_true hf.1
    unfold unitL
    split
    · show (0 : Int).natAbs < n
      omega
    · split
      · exact unitL_fit vals r one hf.2 h
      · split
        · exact unitL_fit vals r one hf.2 h
        · split
          · exact unitL_fit vals r x hf.2 hx
          · show (0 : Int).natAbs < n
            omega
theorem scanL_fit {n : Nat} (vals : List Int) : ∀ (cs : List (List Int)) (i : Nat) (next : Int), (cs.all fun c => fitL n c) = true → next.natAbs < n → (scanL vals cs i next).2.natAbs < n
  | [], _, _, _, h => h
  | c :: r, i, next, hf, h => by
    rw [List.all_cons, Bool.and_eq_true] at hf
    unfold scanL
    split
    · exact h
    · refine scanL_fit vals r (i + 1) _ hf.2 ?_
      split
      · exact unitL_fit vals c 0 hf.1 (by omega)
      · exact h
theorem propL_mono (cs : List (List Int)) : ∀ (k : Nat) (vals list : List Int), LeO (propL cs k vals list) (propL cs (k + 1) vals list)
  | 0, _, _ => fun r h => by simp [propL] at h
  | k + 1, vals, list => by
    intro r h
    rw [propL] at h ⊢
    generalize scanL vals cs 0 0 = q at h ⊢
    obtain ⟨o, next⟩ := q
    cases o with
    | some i => exact h
    | none =>
      simp only at h ⊢
      by_cases h0 : next = 0
      · rw [if_pos h0] at h ⊢
        exact h
      · rw [if_neg h0] at h ⊢
        by_cases h1 : list.length < 17592186044416
        · rw [if_pos h1] at h ⊢
          exact propL_mono cs k _ _ r h
        · rw [if_neg h1] at h
          cases h
set_option maxHeartbeats 8000000 in
set_option maxRecDepth 100000 in
theorem propagate_any (k : Nat) (g b : Nat) (vars : Int) (A : Option Addr) (c cv : Nat) (cs : List (List Int)) (vals vals2 list : List Int) (at_ : Int) (w0 w : World) (hS : ST w0 w g b vars A cs.length c cv vals) (hC : Kd.C (Kd.slice 3 (Kd.int .i64)) w0 A cs.length cs) (hfit : (cs.all fun c => fitL vals.length c) = true) (hn : vals.length ≤ 4096) (hp : 0 < vals.length) (h : propL cs k vals [] = some (vals2, list, at_)) :
    Calls Try.prog 71 #[.pointer (some ⟨g, 0, none⟩)] w fun e W' => ∃ v, e = .returned (.tuple #[v, .int .i64 at_]) ∧ Kd.R (Kd.int .i64) 3 W' w.heap.size (fun _ => True) v list ∧ ST w0 W' g b vars A cs.length c cv vals2 ∧ vals2.length = vals.length ∧ KeepBut w W' b none ∧ Below w0.heap.size w0 W' := by
  have HS := Aside0.mk hS
  have HC := Aside0.mk hC
  have HF := Aside0.mk hfit
  have HN := Aside0.mk hn
  have HP := Aside0.mk hp
  have HLT := Aside0.mk (And.intro hS.glt hS.blt)
  have HK := Aside0.mk (KeepBut.refl w b none)
  have HR := Aside0.mk (Kd.R_nil (Kd.int .i64) 3 w w.heap.size (fun k_ => w.heap.size ≤ k_))
  have H' := Aside0.mk h
  have hmax : cs.length ≤ 9223372036854775807 := Kd.C_max hC
  clear hS hC hfit hn hp h
  go_enter Try.func71, Try.ntmps71
  go_wp2
  go_loopg [4] k (fun gg v4 wr => ∃ (va li : List Int), va.length = vals.length ∧ Aside0 (propL cs gg va li = some (vals2, list, at_)) ∧ Aside0 (ST w0 wr g b vars A cs.length c cv va) ∧ Aside0 (Kd.R (Kd.int .i64) 3 wr w.heap.size (fun k_ => w.heap.size ≤ k_) v4 li) ∧ Aside0 (KeepBut w wr b none))
  case atStart => exact ⟨vals, [], rfl, H', HS, HR, HK⟩
  case round =>
    clear H' HS HR HK
    obtain ⟨va, li, hva, HA, HS, HR, HK⟩ := hrel
    cases gk with
    | zero => exact absurd HA.out (by simp [propL])
    | succ k1 =>
    have hA := HA.out
    rw [propL] at hA
    clear HA
    obtain ⟨q, hq⟩ : ∃ q, scanL va cs 0 0 = q := ⟨_, rfl⟩
    have hqf := scanL_fit va cs 0 0 HF.out (by have := HP.out; show (0 : Int).natAbs < _; omega)
    rw [hq] at hA hqf
    have HQ : Aside0 (scanL va (cs.drop 0) 0 0 = q) := ⟨by rw [List.drop_zero]; exact hq⟩
    have HA := Aside0.mk hA
    have HQF := Aside0.mk hqf
    clear hq hA hqf
    obtain ⟨hc0, hc1, hc2⟩ := HS.out.cells
    have HCC := Aside0.mk (And.intro hc0 (And.intro hc1 hc2))
    clear hc0 hc2
    go_wp2
    clear hc1
    go_loopg [5, 16] cs.length (fun gg v5 v16 wr2 => ∃ (next : Int) (kk : Nat), v5 = .int .i64 next ∧ v16 = .int .i64 kk ∧ kk ≤ cs.length ∧ cs.length - kk ≤ gg ∧ Aside0 (scanL va (cs.drop kk) kk next = q) ∧ wr2 = wr)
    case atStart => exact ⟨0, 0, rfl, rfl, Nat.zero_le _, by omega, HQ, rfl⟩
    case round =>
      clear HQ
      obtain ⟨next, kk, rfl, rfl, hk, hg, HQ, rfl⟩ := hrel
      by_cases hlt : kk < cs.length
      · have hltz : (kk : Int) < (cs.length : Int) := by omega
        have h0z : (0 : Int) ≤ (kk : Int) := by omega
        obtain ⟨ad, A0, c0, ea, hx, hlen, hC0⟩ := at_L1 HC.out (kk : Int) h0z hltz
        subst ea
        rw [Int.toNat_natCast] at hx
        have hrd : rd_L1 cs (kk : Int) = cs[kk] := by unfold rd_L1; simp [List.getD, hlt]
        have hQ := HQ.out
        rw [List.drop_eq_getElem_cons hlt, scanL, ← hrd] at hQ
        have hfc : fitL vals.length (rd_L1 cs (kk : Int)) = true := by rw [hrd]; exact List.all_eq_true.1 HF.out _ (List.getElem_mem hlt)
        have ew : IntKind.i64.wrap ((kk : Int) + 1) = ((kk + 1 : Nat) : Int) := IntWalk.i64_in _ (by omega)
        clear hrd HQ
        generalize rd_L1 cs (kk : Int) = l at hx hlen hC0 hQ hfc
        have hx2 := (HS.out.base.cell (World.block_lt_of_cell? w0 _ hx)).trans hx
        have hcall := unit_any g va _ cv A0 c0 l wr HCC.out.2.2 HS.out.reads (Kd.C_below hC0 HS.out.base) (by rw [hva]; exact hfc) (by rw [hva]; exact HN.out)
        clear hx hlen hC0 hfc
        obtain ⟨u, hu⟩ : ∃ u, unitL va l 0 = u := ⟨_, rfl⟩
        rw [hu] at hQ hcall
        clear hu
        obtain ⟨one, fl⟩ := u
        simp only at hQ hcall
        cases fl with
        | true =>
          rw [if_pos rfl] at hQ
          have hA := HA.out
          subst hQ
          simp only [Option.some.injEq, Prod.mk.injEq] at hA
          obtain ⟨rfl, rfl, rfl⟩ := hA
          clear HA
          go_wp2_with (go_at_call 106; refine hcall.mono ?_; rintro e w' ⟨rfl, rfl⟩)
          go_ret2
          exact ⟨_, rfl, Kd.R_mono HR.out (fun _ _ => trivial), HS.out, hva, HK.out, HS.out.base⟩
        | false =>
          rw [if_neg Bool.false_ne_true] at hQ
          have HQ2 := Aside0.mk hQ
          clear hQ
          by_cases h0 : next = 0
          · subst h0
            rw [if_pos rfl] at HQ2
            go_wp2_with (go_at_call 106; refine hcall.mono ?_; rintro e w' ⟨rfl, rfl⟩)
            go_roundg (gk - 1)
            case measure => omega
            case rel => exact ⟨one, kk + 1, rfl, rfl, by omega, by omega, HQ2, rfl⟩
          · rw [if_neg h0] at HQ2
            have h02 : (next == 0) = false := beq_eq_false_iff_ne.mpr h0
            go_wp2_with (go_at_call 106; refine hcall.mono ?_; rintro e w' ⟨rfl, rfl⟩)
            go_roundg (gk - 1)
            case measure => omega
            case rel => exact ⟨next, kk + 1, rfl, rfl, by omega, by omega, HQ2, rfl⟩
      · have hQ := HQ.out
        obtain rfl : kk = cs.length := by omega
        rw [List.drop_length, scanL] at hQ
        subst hQ
        have hA := HA.out
        simp only at hA
        have hqf := HQF.out
        simp only at hqf
        clear HQF HA HQ
        by_cases h0 : next = 0
        · subst h0
          rw [if_pos rfl] at hA
          simp only [Option.some.injEq, Prod.mk.injEq] at hA
          obtain ⟨rfl, rfl, rfl⟩ := hA
          go_wp2
          go_ret2
          exact ⟨_, rfl, Kd.R_mono HR.out (fun _ _ => trivial), HS.out, hva, HK.out, HS.out.base⟩
        · rw [if_neg h0] at hA
          have h02 : (next == 0) = false := beq_eq_false_iff_ne.mpr h0
          by_cases hl : li.length < 17592186044416
          · rw [if_pos hl] at hA
            have H' := Aside0.mk hA
            have LM := Aside0.mk hl
            obtain ⟨hcx, hfx⟩ := Kd.R_celln 0 HS.out.own (next.natAbs : Int) (by omega) (by rw [hva]; omega)
            rw [Int.toNat_natCast] at hcx hfx
            have hcall := set_any g b va.length cv next _ wr HCC.out.2.2 (by rw [hva]; exact hqf) (by rw [hva]; exact HN.out) hcx hfx
            have HS2 := Aside0.mk (HS.out.set next)
            have HR2 := Aside0.mk (Kd.R_far (p := ⟨b, next.natAbs, none⟩) HR.out (fun k_ hk_ => by have := HLT.out.2; show k_ ≠ b; omega) (.int .i64 (if next < 0 then -1 else 1)))
            have HK2 := Aside0.mk (KeepBut.set_ HK.out next.natAbs (.int .i64 (if next < 0 then -1 else 1)))
            clear hcx hfx hl hA HS HR HK HCC
            generalize wr.setCell ⟨b, next.natAbs, none⟩ (.int .i64 (if next < 0 then -1 else 1)) = wr2 at hcall HS2 HR2 HK2
            go_wp2_with (first
              | (go_at_call 70; refine hcall.mono ?_; rintro e w' ⟨rfl, hq⟩; have hq2 := hq.symm; clear hcall hq; subst hq2)
              | ((with_reducible refine gate_builtin (b := .append) (xs := #[.tmp 40, .tmp 42]) rfl ?_); at_builtin; refine Kd.R_append (Kd.int .i64) (w0 := wr2) w.heap.size rfl (.tmp 40) (.tmp 42) 37 3 (.int .i64 0) 8 rfl Try.underlying37 info3 rfl (by decide) (by omega) u4 li next [.int .i64 next] (fun k_ => w.heap.size ≤ k_) (fun _ => False) rfl rfl ?aP (fun _ hk => hk.elim) ?aF ?aO ?aB ?aS ?aL ?_; (case aP => exact rfl); (case aF => exact fun k_ hk_ => Nat.le_trans HK2.out.1 hk_); (case aO => exact HR2.out); (case aB => exact Below.refl _ _); (case aS => exact HK2.out.1); (case aL => have := LM.out; omega); intro v1 w1 ho hb hg2 hat; have n0_ := Aside0.mk ho; have n1_ := Aside0.mk (HS2.out.grown hg2 (HS2.out.base.trans (hb.mono (by have := HS2.out.old; have := HLT.out.1; omega))) (fun e_ => by have := HR2.out.1 _ e_; have := HLT.out.1; omega) (fun e_ => by have := HR2.out.1 _ e_; have := HLT.out.2; omega)); have n2_ := Aside0.mk (show KeepBut w w1 b none from ⟨Nat.le_trans HK2.out.1 hg2.size, fun i_ hi_ hne_ hr_ => (hb.block i_ hi_).trans (HK2.out.2 i_ hi_ hne_ hr_)⟩); clear HS2 HR2 HK2 hb hg2 hat ho))
            go_roundg k1
            case measure => omega
            case rel => exact ⟨setL va next, li ++ [next], by rw [setL_length]; exact hva, H', n1_, n0_, n2_⟩
          · rw [if_neg hl] at hA
            cases hA

end Go.Proofs.Ytelfahcjeldliaa.PFnExactRup
