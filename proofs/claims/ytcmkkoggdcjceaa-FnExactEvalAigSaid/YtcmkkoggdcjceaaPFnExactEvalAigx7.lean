/- WRITTEN BY A PROGRAM OF THIS SESSION (wip/xprint) OVER THE KIT's PRINT, FOR THIS CLAIM: for Go functions that the law reaches, one Lean function each and the proof that Go's call comes to its answer. No conditions but those that each theorem names. -/
import Derived.Test.YtcmkkoggdcjceaaPFnExactEvalAigx0
import Derived.Test.YtcmkkoggdcjceaaPFnExactEvalAigx5
import Derived.Test.YtcmkkoggdcjceaaPFnExactEvalAigx6
namespace Go.Proofs.Ytcmkkoggdcjceaa.PFnExactEvalAig
open Go.RowKit Go.Proofs.YtcmkkoggdcjceaaW.PrintWords Go.Proofs.YtcmkkoggdcjceaaW.PrintLast Go.Proofs.YtcmkkoggdcjceaaW.PrintMore
attribute [local go_sem] max2_int min2_int max_two min_two max_three min_three max_four min_four   -- for this text's walks alone
set_option linter.unusedVariables false
set_option linter.unusedSimpArgs false

-- NOT PRINTED: function 116 (slices_IndexFunc_int_int)

/-! ### slices_ContainsFunc_int_int: function 70 -/
/-- one of the first n places at which p holds -/
def anyI (p : Nat → Bool) : Nat → Bool
  | 0 => false
  | n + 1 => anyI p n || p n
theorem anyI_none {p : Nat → Bool} : ∀ {n : Nat}, (∀ j, j < n → p j = false) → anyI p n = false
  | 0, _ => rfl
  | n + 1, h => by rw [anyI, anyI_none (fun j hj => h j (by omega)), h n (by omega)]; rfl
theorem anyI_some {p : Nat → Bool} : ∀ {n k : Nat}, k < n → p k = true → anyI p n = true
  | 0, _, h, _ => by omega
  | n + 1, k, h, hp => by
    rw [anyI]
    by_cases e : k = n
    · subst e; rw [hp]; simp
    · rw [anyI_some (show k < n by omega) hp]; simp
theorem anyI_list {α : Type} (q : α → Bool) (d : α) (p : Nat → Bool) : ∀ (l : List α), (∀ i, i < l.length → p i = q (l.getD i d)) → anyI p l.length = l.any q := by
  intro l h
  cases hq : l.any q with
  | true =>
    obtain ⟨x, hx, hqx⟩ := List.any_eq_true.1 hq
    obtain ⟨i, hi, rfl⟩ := List.mem_iff_getElem.1 hx
    exact anyI_some hi (by rw [h i hi]; simpa [List.getD, hi] using hqx)
  | false =>
    refine anyI_none (fun j hj => ?_)
    rw [h j hj]
    have := List.any_eq_false.1 hq (l.getD j d) (by simp [List.getD, hj])
    simpa using this
set_option maxHeartbeats 4000000 in
theorem idxInt (p : Nat → Bool) (V : Nat → Value) (g : Nat) (lb : Array Value) (eg : ∀ args w, (callFunc g args).run Try.prog w = .ok (.enter g args) w) (A : Option Addr) (n c : Nat) (w : World) (hn : n ≤ 9223372036854775807)
    (hc : 0 < n → ∃ ad, A = some ad ∧ ∀ i, i < n → w.cell? (ad.add i) = some (V i))
    (hp : ∀ i, i < n → ∀ W, Below w.heap.size w W → Calls Try.prog g (#[V i] ++ lb) W fun e W' => e = .returned (.bool (p i)) ∧ Below W.heap.size W W') :
    Calls Try.prog 116 #[.slice A n c, .func (.func g) #[] lb] w fun e w' => (∃ r : Int, e = .returned (.int .i64 r) ∧ decide (0 ≤ r) = anyI p n) ∧ Below w.heap.size w w' := by
  have HP := Aside0.mk hp
  have HC := Aside0.mk hc
  clear hp hc
  go_enter Try.func116, Try.ntmps116
  go_wp2
  go_loopg [5, 8] n (fun gg _ s8 wr => ∃ kk : Nat, kk ≤ n ∧ n - kk ≤ gg ∧ s8 = .int .i64 kk ∧ Aside0 (Below w.heap.size w wr) ∧ Aside0 (∀ j, j < kk → p j = false))
  case atStart => exact ⟨0, Nat.zero_le _, by omega, rfl, ⟨Below.refl _ _⟩, ⟨fun j hj => absurd hj (Nat.not_lt_zero _)⟩⟩
  case round =>
    obtain ⟨kk, hkk, hg, rfl, HB, HN⟩ := hrel
    by_cases hlt : kk < n
    · have hltz : (kk : Int) < (n : Int) := by omega
      obtain ⟨ad, ea, hcell0⟩ := HC.out (by omega)
      have hcell := (HB.out.cell (World.block_lt_of_cell? w _ (hcell0 kk hlt))).trans (hcell0 kk hlt)
      clear hcell0
      cases ea
      have hcall := HP.out kk hlt _ HB.out
      cases hq : p kk with
      | true =>
        rw [hq] at hcall
        have HQ := Aside0.mk hq
        clear hq
        go_wp2_with (go_at_fn g; refine hcall.mono ?_; rintro e w' ⟨rfl, hb⟩)
        go_ret
        refine ⟨⟨kk, rfl, ?_⟩, HB.out.trans (hb.mono HB.out.size)⟩
        rw [anyI_some hlt HQ.out, decide_eq_true (by omega)]
      | false =>
        rw [hq] at hcall
        have HQ := Aside0.mk hq
        clear hq
        go_wp2_with (go_at_fn g; refine hcall.mono ?_; rintro e w' ⟨rfl, hb⟩)
        go_roundg (n - (kk + 1))
        case measure => omega
        case rel =>
          refine ⟨kk + 1, by omega, by omega, by go_num, ⟨HB.out.trans (hb.mono HB.out.size)⟩, ⟨fun j hj => ?_⟩⟩
          by_cases e : j = kk
          · subst e
            exact HQ.out
          · exact HN.out j (by omega)
    · have hltz : ¬ (kk : Int) < (n : Int) := by omega
      have : kk = n := by omega
      subst this
      go_wp2
      go_ret
      refine ⟨⟨-1, rfl, ?_⟩, HB.out⟩
      rw [anyI_none HN.out]
      rfl
set_option maxHeartbeats 4000000 in
theorem anyInt (p : Nat → Bool) (V : Nat → Value) (g : Nat) (lb : Array Value) (eg : ∀ args w, (callFunc g args).run Try.prog w = .ok (.enter g args) w) (A : Option Addr) (n c : Nat) (w : World) (hn : n ≤ 9223372036854775807)
    (hc : 0 < n → ∃ ad, A = some ad ∧ ∀ i, i < n → w.cell? (ad.add i) = some (V i))
    (hp : ∀ i, i < n → ∀ W, Below w.heap.size w W → Calls Try.prog g (#[V i] ++ lb) W fun e W' => e = .returned (.bool (p i)) ∧ Below W.heap.size W W') :
    Calls Try.prog 70 #[.slice A n c, .func (.func g) #[] lb] w fun e w' => e = .returned (.bool (anyI p n)) ∧ Below w.heap.size w w' := by
  have hcall := idxInt p V g lb eg A n c w hn hc hp
  clear hp hc
  go_enter Try.func70, Try.ntmps70
  go_wp2_with (go_at_call 116; refine hcall.mono ?_; rintro e w' ⟨⟨r, rfl, hr⟩, hb⟩)
  go_ret
  exact ⟨by first | (rw [← hr]; rfl) | (rw [← hr]; simp), hb⟩

/-- over a row of numbers that is read -/
theorem anyIntL (q : Int → Bool) (g : Nat) (lb : Array Value) (eg : ∀ args w, (callFunc g args).run Try.prog w = .ok (.enter g args) w) (A : Option Addr) (l : List Int) (c : Nat) (w : World) (hr : Kd.C (Kd.int .i64) w A l.length l)
    (hp : ∀ x W, Below w.heap.size w W → Calls Try.prog g (#[.int .i64 x] ++ lb) W fun e W' => e = .returned (.bool (q x)) ∧ Below W.heap.size W W') :
    Calls Try.prog 70 #[.slice A l.length c, .func (.func g) #[] lb] w fun e w' => e = .returned (.bool (l.any q)) ∧ Below w.heap.size w w' := by
  have h := anyInt (fun i => q (l.getD i 0)) (fun i => .int .i64 (l.getD i 0)) g lb eg A l.length c w hr.2.1
    (fun hn => by
      obtain ⟨ad, ea, _⟩ := hr.2.2 hn
      refine ⟨ad, ea, fun i hi => ?_⟩
      obtain ⟨ad', ea', hx⟩ := Kd.at_int hr (i : Int) (by omega) (by omega)
      cases ea
      cases ea'
      exact hx)
    (fun i hi W hb => hp _ W hb)
  rwa [anyI_list q 0 _ l (fun i _ => rfl)] at h

/-- over a row of numbers that is read, its members alone -/
theorem anyIntL' (q : Int → Bool) (g : Nat) (lb : Array Value) (eg : ∀ args w, (callFunc g args).run Try.prog w = .ok (.enter g args) w) (A : Option Addr) (l : List Int) (c : Nat) (w : World) (hr : Kd.C (Kd.int .i64) w A l.length l)
    (hp : ∀ x, x ∈ l → ∀ W, Below w.heap.size w W → Calls Try.prog g (#[.int .i64 x] ++ lb) W fun e W' => e = .returned (.bool (q x)) ∧ Below W.heap.size W W') :
    Calls Try.prog 70 #[.slice A l.length c, .func (.func g) #[] lb] w fun e w' => e = .returned (.bool (l.any q)) ∧ Below w.heap.size w w' := by
  have h := anyInt (fun i => q (l.getD i 0)) (fun i => .int .i64 (l.getD i 0)) g lb eg A l.length c w hr.2.1
    (fun hn => by
      obtain ⟨ad, ea, _⟩ := hr.2.2 hn
      refine ⟨ad, ea, fun i hi => ?_⟩
      obtain ⟨ad', ea', hx⟩ := Kd.at_int hr (i : Int) (by omega) (by omega)
      cases ea
      cases ea'
      exact hx)
    (fun i hi W hb => hp _ (by simp [List.getD, hi]) W hb)
  rwa [anyI_list q 0 _ l (fun i _ => rfl)] at h

/-! ### impl_nodesOf: function 117 -/
def impl_nodesOf.f (a0_0 : Int) (l0_1 : List (S114)) : Option (Int) := some (wrap64 ((wrap64 (1 + a0_0)) + (l0_1.length : Int)))
set_option maxHeartbeats 8000000 in
set_option maxRecDepth 100000 in
theorem impl_nodesOf.calls (a0_0 : Int) (A0_1 : Option Addr) (c0_1 : Nat) (l0_1 : List (S114)) (r : Int) (w : World) (hr0_1 : Kd.C k114 w A0_1 l0_1.length l0_1) (hc0_1 : l0_1.length ≤ c0_1) (h : impl_nodesOf.f a0_0 l0_1 = some r) :
    Calls Try.prog 117 #[.agg #[.int .i64 a0_0, .slice A0_1 l0_1.length c0_1]] w fun e w' => e = .returned (.int .i64 r) ∧ Below w.heap.size w w' := by
  have hu46 := Try.underlying46
  have HR0_1 := Aside0.mk hr0_1
  have HC0_1 := Aside0.mk hc0_1
  clear hr0_1 hc0_1
  have HB := Aside0.mk (Below.refl w.heap.size w)
  have H : (some (wrap64 ((wrap64 (1 + a0_0)) + (l0_1.length : Int)))) = some r := h
  clear h
  obtain rfl := Option.some.inj H
  go_enter Try.func117, Try.ntmps117
  go_wp2_with (first | ((with_reducible refine gate_dst (N := 1) rfl ?_); refine box_event ?hg (N := 1) ?hd (cs := #[.int .i64 a0_0, .slice A0_1 l0_1.length c0_1]) (t := 46) ?hr ?_; (case hd => rfl); (case hg => rfl); (case hr => first | (go_simp; done) | (go_simp; rfl)); intro gb193 hg w2 hbox hb; have n0_ := Aside0.mk (below_step (by repeat (first | (with_reducible first | exact HB.out | apply below_alloc | apply pw_below_drewN | apply below_drew1) | exact HB.out)) hb); have n1_ := Aside0.mk (hbox); have n2_ := Aside0.mk ((by rw [hg]; exact (below_size (by repeat (first | (with_reducible first | exact HB.out | apply below_alloc | apply pw_below_drewN | apply below_drew1) | exact HB.out))) : w.heap.size ≤ gb193)); have n3_ := Aside0.mk ((by rw [hg]; exact (below_size (by repeat (first | (with_reducible first | exact HB.out | apply below_alloc | apply pw_below_drewN | apply below_drew1) | exact HB.out))) : w.heap.size ≤ gb193)); clear HB; have HB := n0_; have BK193 := n1_; have GW193 := n2_; have GE193 := n3_; clear n0_ n1_ n2_ n3_; clear hb hbox hg; have hcz3_0 : w2.cell? ⟨gb193, 0, none⟩ = some (.int .i64 a0_0) := (blk_cell BK193.out 0).trans rfl; have hcz3_1 : w2.cell? ⟨gb193, 1, none⟩ = some (.slice A0_1 l0_1.length c0_1) := (blk_cell BK193.out 1).trans rfl; have hfz3_0 := blk_frozen BK193.out 0; have hfz3_1 := blk_frozen BK193.out 1))
  go_ret
  exact ⟨by first | rfl | (simp [errW_none, errW_some] <;> rfl) | (simp [*, errW_none, errW_some] <;> rfl), by repeat (first | (with_reducible first | exact HB.out | apply below_alloc | apply pw_below_drewN | apply below_drew1 | refine below_set ?_ GE193.out) | exact HB.out)⟩

/-! ### impl_isAigLiteral: function 72 -/
def impl_isAigLiteral.f (a0_0 : Int) (l0_1 : List (S114)) (a1 : Int) : Option (Bool) := (impl_nodesOf.f a0_0 l0_1).bind fun t195 => ((impl_within.f a1 0 (wrap64 ((wrap64 (2 * t195)) - 1))).bind fun t196 => (some t196))
set_option maxHeartbeats 8000000 in
set_option maxRecDepth 100000 in
theorem impl_isAigLiteral.calls (a0_0 : Int) (A0_1 : Option Addr) (c0_1 : Nat) (l0_1 : List (S114)) (a1 : Int) (r : Bool) (w : World) (hr0_1 : Kd.C k114 w A0_1 l0_1.length l0_1) (hc0_1 : l0_1.length ≤ c0_1) (h : impl_isAigLiteral.f a0_0 l0_1 a1 = some r) :
    Calls Try.prog 72 #[.agg #[.int .i64 a0_0, .slice A0_1 l0_1.length c0_1], .int .i64 a1] w fun e w' => e = .returned (.bool r) ∧ Below w.heap.size w w' := by
  have hu46 := Try.underlying46
  have HR0_1 := Aside0.mk hr0_1
  have HC0_1 := Aside0.mk hc0_1
  clear hr0_1 hc0_1
  have HB := Aside0.mk (Below.refl w.heap.size w)
  have H : ((impl_nodesOf.f a0_0 l0_1).bind fun t195 => ((impl_within.f a1 0 (wrap64 ((wrap64 (2 * t195)) - 1))).bind fun t196 => (some t196))) = some r := h
  clear h
  replace H := Option.bind_eq_some_iff.mp H
  obtain ⟨t195, A30, H⟩ := H
  replace H : ((impl_within.f a1 0 (wrap64 ((wrap64 (2 * t195)) - 1))).bind fun t196 => (some t196)) = some r := H
  have A3 := Aside0.mk A30
  clear A30
  replace H := Option.bind_eq_some_iff.mp H
  obtain ⟨t196, A40, H⟩ := H
  replace H : (some t196) = some r := H
  have A4 := Aside0.mk A40
  clear A40
  obtain rfl := Option.some.inj H
  go_enter Try.func72, Try.ntmps72
  go_wp2_with (first | ((with_reducible refine gate_dst (N := 2) rfl ?_); refine box_event ?hg (N := 2) ?hd (cs := #[.int .i64 a0_0, .slice A0_1 l0_1.length c0_1]) (t := 46) ?hr ?_; (case hd => rfl); (case hg => rfl); (case hr => first | (go_simp; done) | (go_simp; rfl)); intro gb194 hg w5 hbox hb; have n0_ := Aside0.mk (below_step (by repeat (first | (with_reducible first | exact HB.out | apply below_alloc | apply pw_below_drewN | apply below_drew1) | exact HB.out)) hb); have n1_ := Aside0.mk (hbox); have n2_ := Aside0.mk ((by rw [hg]; exact (below_size (by repeat (first | (with_reducible first | exact HB.out | apply below_alloc | apply pw_below_drewN | apply below_drew1) | exact HB.out))) : w.heap.size ≤ gb194)); have n3_ := Aside0.mk ((by rw [hg]; exact (below_size (by repeat (first | (with_reducible first | exact HB.out | apply below_alloc | apply pw_below_drewN | apply below_drew1) | exact HB.out))) : w.heap.size ≤ gb194)); clear HB; have HB := n0_; have BK194 := n1_; have GW194 := n2_; have GE194 := n3_; clear n0_ n1_ n2_ n3_; clear hb hbox hg; have hcz6_0 : w5.cell? ⟨gb194, 0, none⟩ = some (.int .i64 a0_0) := (blk_cell BK194.out 0).trans rfl; have hcz6_1 : w5.cell? ⟨gb194, 1, none⟩ = some (.slice A0_1 l0_1.length c0_1) := (blk_cell BK194.out 1).trans rfl; have hfz6_0 := blk_frozen BK194.out 0; have hfz6_1 := blk_frozen BK194.out 1) | ((with_reducible refine gate_callee (f := 117) rfl ?_); refine goesL_ (some 7) rfl rfl Try.func117 (by kernel_rfl) rfl #[.agg #[.int .i64 a0_0, .slice A0_1 l0_1.length c0_1]] rfl (by (try simp only [List.map_toArray, List.map_cons, List.map_nil]); first | done | rfl | (simp only [List.length_drop, List.length_take]; rfl)) ?_; (with_reducible refine (impl_nodesOf.calls a0_0 _ _ l0_1 t195 _ ?side1 ?side2 A3.out).mono ?_); (case side1 => repeat (first | exact (Kd.C_below HR0_1.out HB.out) | (with_reducible refine Kd.C_alloc ?_ _) | (with_reducible refine Kd.C_drewN ?_ _) | (with_reducible refine Kd.C_drew ?_))); (case side2 => exact HC0_1.out); rintro e w7 ⟨rfl, hb⟩; refine ⟨_, rfl, ?_⟩; have n0_ := Aside0.mk (blk_below (g := gb194) (o := .cells #[.int .i64 a0_0, .slice A0_1 l0_1.length c0_1] 46 (0, 0)) (by (with_reducible repeat (first | refine blk_drewN ?_ _ | refine blk_drew ?_ | refine blk_alloc ?_ _)); exact BK194.out) hb); have n1_ := Aside0.mk (below_step (by repeat (first | (with_reducible first | exact HB.out | apply below_alloc | apply pw_below_drewN | apply below_drew1 | refine below_set ?_ GE194.out) | exact HB.out)) hb); clear BK194; clear HB; have BK194 := n0_; have HB := n1_; clear n0_ n1_; (try clear hb); (try clear hb2); (try clear hk); (try clear hi)) | ((with_reducible refine gate_callee (f := 79) rfl ?_); refine goesL_ (some 10) rfl rfl Try.func79 (by kernel_rfl) rfl #[.int .i64 a1, .int .i64 0, .int .i64 (wrap64 ((wrap64 (2 * t195)) - 1))] rfl (by (try simp only [List.map_toArray, List.map_cons, List.map_nil]); first | done | rfl | (simp only [List.length_drop, List.length_take]; rfl)) ?_; (with_reducible refine (impl_within.calls a1 0 (wrap64 ((wrap64 (2 * t195)) - 1)) t196 _ A4.out).mono ?_); rintro e w' ⟨rfl, ⟨nd, rfl⟩⟩; refine ⟨_, rfl, ?_⟩))
  go_ret
  exact ⟨by first | rfl | (simp [errW_none, errW_some] <;> rfl) | (simp [*, errW_none, errW_some] <;> rfl), by repeat (first | (with_reducible first | exact HB.out | apply below_alloc | apply pw_below_drewN | apply below_drew1 | refine below_set ?_ GE194.out) | exact HB.out)⟩

/-! ### impl_evalAig: function 73 -/
/-- a literal's value, if its node is there -/
def litO (ns : List Bool) (x : Int) : Option Bool := if 0 ≤ wrap64 (Int.tdiv x 2) then (if wrap64 (Int.tdiv x 2) < (ns.length : Int) then some (rdOf false ns (wrap64 (Int.tdiv x 2)) != (Int.tmod x 2 == 1)) else none) else none
set_option maxHeartbeats 4000000 in
theorem evalAig_fn (ns : List Bool) (x : Int) (b : Bool) (h : litO ns x = some b) (A : Option Addr) (c g : Nat) (W : World) (hv : W.cell? ⟨g, 0, none⟩ = some (.slice A ns.length c)) (hC : Kd.C Kd.bool W A ns.length ns) :
    Calls Try.prog 118 #[.int .i64 x, .pointer (some ⟨g, 0, none⟩)] W fun e W' => e = .returned (.bool b) ∧ W' = W := by
  unfold litO at h
  by_cases h0 : 0 ≤ wrap64 (Int.tdiv x 2)
  · rw [if_pos h0] at h
    by_cases h1 : wrap64 (Int.tdiv x 2) < (ns.length : Int)
    · rw [if_pos h1] at h
      obtain ⟨ad, ea, hc⟩ := Kd.at_bool hC (wrap64 (Int.tdiv x 2)) h0 h1
      subst ea
      have hb := Option.some.inj h
      subst hb
      clear h hC
      generalize rdOf false ns (wrap64 (Int.tdiv x 2)) = r at hc ⊢
      go_enter Try.func118, Try.ntmps118
      go_wp2
      go_ret
      exact ⟨by cases r <;> cases (Int.tmod x 2 == 1) <;> rfl, rfl⟩
    · rw [if_neg h1] at h
      cases h
  · rw [if_neg h0] at h
    cases h
def evalAig_T6 : Bool × List (List Nat × List Nat) := (true, [([], []), ([], []), ([], []), ([2], [2]), ([1, 3], [1, 3]), ([4, 4], [4]), ([5], [5]), ([5], [5]), ([7, 5], [5, 7]), ([6, 8, 5, 5], [5, 6, 8]), ([5, 9], [5, 9]), ([10], [10]), ([0, 11, 9], [0, 11]), ([12, 12, 0, 1, 2, 3, 4, 5, 6, 7, 8, 9, 10, 11, 12], [12])])
def evalAig_B6 : List Nat := [0, 0, 0, 4, 14, 30, 62, 62, 190, 510, 1022, 2046, 4095, 8191]
theorem evalAig_tab6 : rtab .any (opsOf Try.f73 6) = evalAig_T6 := by kernel_rfl
theorem evalAig_bits6 : waitsOk evalAig_T6.2 evalAig_B6 = true := by kernel_rfl
theorem evalAig_lt {w : World} {g : Nat} {o : Obj} (h : w.heap[g]? = some o) : g < w.heap.size := (Array.getElem?_eq_some_iff.1 h).1
theorem C_ofR {w : World} {base : Nat} {ok : Nat → Prop} {A : Option Addr} {c : Nat} {ns : List Bool} (h : Kd.R Kd.bool 4 w base ok (.slice A ns.length c) ns) : Kd.C Kd.bool w A ns.length ns := (Kd.R_reads' h).2.2
theorem blk_set_own {w : World} {g : Nat} {v v2 : Value} {t : TypeId} (h : w.heap[g]? = some (.cells #[v] t (0, 0))) : (w.setCell ⟨g, 0, none⟩ v2).heap[g]? = some (.cells #[v2] t (0, 0)) := by
  simp only [World.setCell, Array.getElem?_modify, if_true, h]
  rfl
/-- the values of all nodes, with those of some gates behind -/
def gatesO : List (S114) → List Bool → Option (List Bool)
  | [], ns => some ns
  | g :: r, ns => (litO ns g.f0).bind fun a => (if a = true then litO ns g.f1 else some false).bind fun b => if ns.length < 140737488355328 then gatesO r (ns ++ [b]) else none
/-- the values of some literals behind those that are there -/
def outO (ns : List Bool) : List Int → List Bool → Option (List Bool)
  | [], out => some out
  | x :: r, out => (litO ns x).bind fun b => if out.length < 140737488355328 then outO ns r (out ++ [b]) else none
def impl_evalAig.f (a0_0 : Int) (l0_1 : List (S114)) (l1 : List Int) (l2 : List Bool) : Option (List Bool) := if 1 + l2.length < 140737488355328 then (gatesO l0_1 (false :: l2)).bind fun ns => outO ns l1 [] else none
set_option maxHeartbeats 8000000 in
set_option maxRecDepth 100000 in
theorem impl_evalAig.calls (a0_0 : Int) (A0_1 : Option Addr) (c0_1 : Nat) (l0_1 : List (S114)) (A1 : Option Addr) (c1 : Nat) (l1 : List Int) (A2 : Option Addr) (c2 : Nat) (l2 : List Bool) (r : List Bool) (w : World) (hr0_1 : Kd.C k114 w A0_1 l0_1.length l0_1) (hc0_1 : l0_1.length ≤ c0_1) (hr1 : Kd.C (Kd.int .i64) w A1 l1.length l1) (hc1 : l1.length ≤ c1) (hr2 : Kd.C Kd.bool w A2 l2.length l2) (hc2 : l2.length ≤ c2) (h : impl_evalAig.f a0_0 l0_1 l1 l2 = some r) :
    Calls Try.prog 73 #[.agg #[.int .i64 a0_0, .slice A0_1 l0_1.length c0_1], .slice A1 l1.length c1, .slice A2 l2.length c2] w fun e w' => ∃ v0_ : Value, e = .returned (v0_) ∧ Kd.R Kd.bool 4 w' w.heap.size (fun _ => True) v0_ r ∧ Below w.heap.size w w' := by
  have hu_implAig := Try.underlying46
  have hu_implGate := Try.underlying114
  unfold impl_evalAig.f at h
  by_cases c3 : 1 + l2.length < 140737488355328
  · rw [if_pos c3] at h
    have hn0 : l0_1.length ≤ 9223372036854775807 := Kd.C_max hr0_1
    have HR0 := Aside0.mk hr0_1
    have HR1 := Aside0.mk hr1
    have HR2 := Aside0.mk hr2
    have LM := Aside0.mk c3
    have H := Aside0.mk h
    have HB := Aside0.mk (Below.refl w.heap.size w)
    clear hr0_1 hc0_1 hr1 hc1 hr2 hc2 h c3
    obtain ⟨y1, hy1⟩ : ∃ y_ : List Bool, y_ = [false] := ⟨_, rfl⟩
    have N1 := Aside0.mk hy1
    clear hy1
    obtain ⟨y2, hy2⟩ : ∃ y_ : List Bool, y_ = (y1 ++ l2) := ⟨_, rfl⟩
    have N2 := Aside0.mk hy2
    clear hy2
    go_enter Try.func73, Try.ntmps73
    go_upto_region 2 with (first
      | ((with_reducible refine gate_dst (N := 3) rfl ?_); refine box_event ?hg (N := 3) ?hd (cs := #[.int .i64 a0_0, .slice A0_1 l0_1.length c0_1]) (t := 46) ?hr ?_; (case hd => rfl); (case hg => rfl); (case hr => first | (go_simp; done) | (go_simp; rfl)); intro gb hg w4 hbox hb; have n0_ := Aside0.mk (below_step HB.out hb); have n1_ := Aside0.mk hbox; clear HB; have HB := n0_; have BK := n1_; clear n0_ n1_ hb hbox hg)
      | ((with_reducible refine gate_dst (N := 14) rfl ?_); refine Kd.R_lit Kd.bool _ 4 ?hg (N := 14) ?hd (xs := ([false] : List Bool)) (inner := [.bool false]) (ok := fun _ => True) (okp := fun _ => True) ?hr ?hp (fun _ hk => hk) trivial (Below.refl _ _) (Nat.le_refl _) (by simp) ?_; (case hd => rfl); (case hg => rfl); (case hr => first | (go_simp; done) | (go_simp; rfl)); (case hp => exact (Reps.one (show Kd.M Kd.bool _ _ _ false [.bool false] from rfl) (Reps.none _ _))); intro v1 w5 ho6 hb hg_ hnew_; clear hg_ hnew_; (first | rw [← N1.out] at ho6 | (simp only [Int.reduceToNat] at ho6; rw [← N1.out] at ho6)); have n0_ := Aside0.mk (Kd.R_lower ho6 (below_size HB.out)); have n1_ := Aside0.mk (blk_below (g := gb) (o := .cells #[.int .i64 a0_0, .slice A0_1 l0_1.length c0_1] 46 (0, 0)) BK.out hb); have n2_ := Aside0.mk (below_step HB.out hb); clear BK; clear HB; have HO1 := n0_; have BK := n1_; have HB := n2_; clear n0_ n1_ n2_; clear hb ho6)
      | ((with_reducible refine gate_builtin (b := .append) (xs := #[.tmp 14, .tmp 15]) rfl ?_); at_builtin; refine Kd.R_append_rows Kd.bool (w0 := w) w.heap.size rfl (.tmp 14) (.tmp 15) 25 4 (.bool false) 1 rfl Try.underlying25 info4 rfl (by decide) (by omega) v1 y1 l2 _ _ _ (fun _ => True) (fun _ => False) rfl rfl ?aO ?aR (fun _ _ h => h) (fun _ h => h.elim) ?aF ?aB ?aS ?aL ?_; (case aR => exact Kd.C_below HR2.out HB.out); (case aB => exact HB.out); (case aF => exact (fun _ _ => trivial)); (case aO => exact HO1.out); (case aS => exact below_size HB.out); (case aL => have := LM.out; have e_ := N1.out; subst e_; simp; omega); intro v2 w7 ho hb hg hat; rw [← N2.out] at ho; obtain ⟨A5, c5, e5⟩ := Kd.R_slice ho; subst e5; have n0_ := Aside0.mk (blk_grown (g := gb) (o := .cells #[.int .i64 a0_0, .slice A0_1 l0_1.length c0_1] 46 (0, 0)) BK.out hg (Kd.R_ne HO1.out BK.out (by decide))); have n1_ := Aside0.mk hb; have n2_ := Aside0.mk ho; clear BK; clear HB; clear HO1; have BK := n0_; have HB := n1_; have HO2 := n2_; clear n0_ n1_ n2_; clear ho hb hg hat))
    have hW : (w7.alloc (.cells #[.slice A5 y2.length c5] 25)).heap[w7.heap.size]? = some (.cells #[.slice A5 y2.length c5] 25 (0, 0)) := by
      show (w7.heap.push _)[w7.heap.size]? = _
      simp
    have HX := Aside0.mk hW
    have HO3 := Aside0.mk (Kd.R_reok (ok := fun k => k ≠ w7.heap.size) rfl (Kd.R_alloc HO2.out (.cells #[.slice A5 y2.length c5] 25)) (fun k hk e_ => Kd.R_ne (Kd.R_alloc HO2.out _) hW (by decide) (by rw [hk, e_])))
    have HG := Aside0.mk (below_size HB.out)
    have HB2 := Aside0.mk (HB.out.alloc (below_size HB.out) (.cells #[.slice A5 y2.length c5] 25))
    have hcz0 : (w7.alloc (.cells #[.slice A5 y2.length c5] 25)).cell? ⟨gb, 0, none⟩ = some (.int .i64 a0_0) := (blk_cell (blk_alloc BK.out (.cells #[.slice A5 y2.length c5] 25)) 0).trans rfl
    have hcz1 : (w7.alloc (.cells #[.slice A5 y2.length c5] 25)).cell? ⟨gb, 1, none⟩ = some (.slice A0_1 l0_1.length c0_1) := (blk_cell (blk_alloc BK.out (.cells #[.slice A5 y2.length c5] 25)) 1).trans rfl
    clear hW HO2 HB
    have H' : Aside0 ((gatesO (l0_1.drop 0) y2).bind (fun ns => outO ns l1 []) = some r) := ⟨by have h1 := H.out; have h2 := N2.out; have h3 := N1.out; subst h3; subst h2; exact h1⟩
    clear H N1 N2 BK
    generalize hw8 : w7.alloc (.cells #[.slice A5 y2.length c5] 25) = w8 at *
    generalize w7.heap.size = gx at *
    clear hw8
    go_wp2_with fail
    go_loopg [21] l0_1.length (fun gg v21 wr => ∃ (kk : Nat) (ns : List Bool) (v : Value), v21 = .int .i64 kk ∧ kk ≤ l0_1.length ∧ l0_1.length - kk ≤ gg ∧ Aside0 ((gatesO (l0_1.drop kk) ns).bind (fun ns => outO ns l1 []) = some r) ∧ Aside0 (Kd.R Kd.bool 4 wr w.heap.size (fun k => k ≠ gx) v ns) ∧ Aside0 (wr.heap[gx]? = some (.cells #[v] 25 (0, 0))) ∧ Aside0 (Below w.heap.size w wr))
    case atStart => exact ⟨0, y2, _, rfl, Nat.zero_le _, by omega, H', HO3, HX, HB2⟩
    case round =>
      clear HO3 HX HB2 hcz0 hcz1 H'
      obtain ⟨kk, ns, v, rfl, hk, hg, HA, HO, HX, HB⟩ := hrel
      by_cases hlt : kk < l0_1.length
      · have hltz : (kk : Int) < (l0_1.length : Int) := by omega
        obtain ⟨ad, ea, hx0, hx1⟩ := at_T114 HR0.out (kk : Int) (by omega) hltz
        subst ea
        rw [Int.toNat_natCast] at hx0 hx1
        replace hx0 := (HB.out.cell (World.block_lt_of_cell? w _ hx0)).trans hx0
        replace hx1 := (HB.out.cell (World.block_lt_of_cell? w _ hx1)).trans hx1
        obtain ⟨A6, c6, ev⟩ := Kd.R_slice HO.out
        subst ev
        have hrd : rd_T114 l0_1 (kk : Int) = l0_1[kk] := by unfold rd_T114; simp [List.getD, hlt]
        have hA := HA.out
        rw [List.drop_eq_getElem_cons hlt, gatesO, ← hrd] at hA
        generalize rd_T114 l0_1 (kk : Int) = ga at hx0 hx1 hA hrd
        cases ha : litO ns ga.f0 with
        | none => rw [ha] at hA; simp at hA
        | some a =>
        rw [ha, Option.bind_some] at hA
        cases hb : (if a = true then litO ns ga.f1 else some false) with
        | none => rw [hb] at hA; simp at hA
        | some b =>
        rw [hb, Option.bind_some] at hA
        by_cases hl : ns.length < 140737488355328
        · rw [if_pos hl] at hA
          have HA2 := Aside0.mk hA
          have HL := Aside0.mk hl
          have hfn := fun (x : Int) (q : Bool) (hq : litO ns x = some q) (V : World) (hV : V.cell? ⟨gx, 0, none⟩ = some (.slice A6 ns.length c6)) (hCV : Kd.C Kd.bool V A6 ns.length ns) => evalAig_fn ns x q hq A6 c6 gx V hV hCV
          have hW : (wr.alloc (.cells #[.int .i64 ga.f0, .int .i64 ga.f1] 114)).heap[wr.heap.size]? = some (.cells #[.int .i64 ga.f0, .int .i64 ga.f1] 114 (0, 0)) := by
            show (wr.heap.push _)[wr.heap.size]? = _
            simp
          obtain ⟨W1, gy, hW1, hgy, BX, BY, HO1, HB1⟩ : ∃ W1 gy, wr.alloc (.cells #[.int .i64 ga.f0, .int .i64 ga.f1] 114) = W1 ∧ wr.heap.size = gy ∧ Aside0 (W1.heap[gx]? = some (.cells #[.slice A6 ns.length c6] 25 (0, 0))) ∧ Aside0 (W1.heap[gy]? = some (.cells #[.int .i64 ga.f0, .int .i64 ga.f1] 114 (0, 0))) ∧ Aside0 (Kd.R Kd.bool 4 W1 w.heap.size (fun k => k ≠ gx) (.slice A6 ns.length c6) ns) ∧ Aside0 (Below w.heap.size w W1) :=
            ⟨_, _, rfl, rfl, ⟨blk_alloc HX.out _⟩, ⟨hW⟩, ⟨Kd.R_alloc HO.out _⟩, ⟨HB.out.alloc (below_size HB.out) _⟩⟩
          have HW1 := Aside0.mk hW1
          have HGY := Aside0.mk hgy
          clear hA hrd hl HA hW hW1 hgy HO HX
          cases a with
          | true =>
            rw [if_pos rfl] at hb
            have hf0 := hfn ga.f0 true ha
            have hf1 := hfn ga.f1 b hb
            clear hfn ha hb
            go_upto_region 6 with fail
            rw [HW1.out, HGY.out]
            clear hx0 hx1 HW1 HGY HB
            have HO := HO1
            have HB := HB1
            clear HO1 HB1
            refine start_ (n := 14) (S := fun w' => w'.cell? ⟨gx, 0, none⟩ = some (.slice A6 ns.length c6) ∧ w'.cell? ⟨gy, 0, none⟩ = some (.int .i64 ga.f0) ∧ w'.cell? ⟨gy, 1, none⟩ = some (.int .i64 ga.f1)) (ds := [13]) #[false, false, false, false, false, false, false, false, false, false, false, false, false, false] (by kernel_rfl) rfl rfl ⟨(blk_cell BX.out 0).trans rfl, (blk_cell BY.out 0).trans rfl, (blk_cell BY.out 1).trans rfl⟩ (fun hHeld => ?_); refine with_tabW evalAig_tab6 evalAig_bits6 (fun HT_ HW_ => ?_)
            replace BX : Aside0 (W1.drew.heap[gx]? = some (.cells #[.slice A6 ns.length c6] 25 (0, 0))) := ⟨BX.out⟩
            replace BY : Aside0 (W1.drew.heap[gy]? = some (.cells #[.int .i64 ga.f0, .int .i64 ga.f1] 114 (0, 0))) := ⟨BY.out⟩
            replace HO : Aside0 (Kd.R Kd.bool 4 W1.drew w.heap.size (fun k => k ≠ gx) (.slice A6 ns.length c6) ns) := ⟨Kd.R_drew HO.out⟩
            replace HB : Aside0 (Below w.heap.size w W1.drew) := ⟨HB.out.drew⟩
            generalize W1.drew = w20 at BX BY HO HB hHeld ⊢
            refine pure_ (i := 1) (N := some 26) (v := ?_) (a' := ?_) #[false, true, false, false, false, false, false, false, false, false, false, false, false, false] rfl rfl (any_of HT_.out (by kernel_rfl)) (fun _ _ _ h => h) (Or.inl ⟨by rfl, ?_⟩) ?_ ?_
            rotate_left
            · intro w'
              go_simp
              with_reducible rfl
            rotate_left
            · simp only [Act.put, List.setIfInBounds_toArray, List.set_cons_zero, List.set_cons_succ, i64_w, i32_w]
              rfl
            refine pure_ (i := 2) (N := some 27) (v := ?_) (a' := ?_) #[false, true, true, false, false, false, false, false, false, false, false, false, false, false] rfl rfl (any_of HT_.out (by kernel_rfl)) (fun _ _ _ h => h) (Or.inl ⟨by rfl, ?_⟩) ?_ ?_
            rotate_left
            · intro w'
              go_simp
              with_reducible rfl
            rotate_left
            · simp only [Act.put, List.setIfInBounds_toArray, List.set_cons_zero, List.set_cons_succ, i64_w, i32_w]
              rfl
            refine take_ (i := 0) (N := some 25) (v := ?_) (a' := ?_) #[true, true, true, false, false, false, false, false, false, false, false, false, false, false] rfl rfl (take_ofW HT_.out HW_.out (by kernel_rfl)) (fun _ _ _ h => h) (Or.inl ⟨by rfl, ?_⟩) hHeld ?_ ?_
            rotate_left
            · rintro w' ⟨s0, s1, s2⟩
              go_simp
              with_reducible rfl
            rotate_left
            · simp only [Act.put, List.setIfInBounds_toArray, List.set_cons_zero, List.set_cons_succ, i64_w, i32_w]
              rfl
            refine take_ (i := 3) (N := some 28) (v := ?_) (a' := ?_) #[true, true, true, true, false, false, false, false, false, false, false, false, false, false] rfl rfl (take_ofW HT_.out HW_.out (by kernel_rfl)) (fun _ _ _ h => h) (Or.inl ⟨by rfl, ?_⟩) hHeld ?_ ?_
            rotate_left
            · rintro w' ⟨s0, s1, s2⟩
              go_simp
              with_reducible rfl
            rotate_left
            · simp only [Act.put, List.setIfInBounds_toArray, List.set_cons_zero, List.set_cons_succ, i64_w, i32_w]
              rfl
            refine one_ (i := 4) (N := some 29) #[true, true, true, true, true, false, false, false, false, false, false, false, false, false] rfl rfl (one_of HT_.out (by kernel_rfl)) (by decide) (fun K hK => ?_)
            refine call_ 118 #[.int .i64 ga.f0, .pointer (some ⟨gx, 0, none⟩)] (by rfl) rfl ?hrun4t ?h4t
            case hrun4t =>
              have he := enters_of Try.func118 (by kernel_rfl) rfl
              unfold execOp
              simp [resolve, Deferred.ofValue, invoke, Act.eval, he]
            refine (hf0 w20 hHeld.1 (C_ofR HO.out)).mono ?_
            rintro e w' ⟨rfl, hq⟩
            have hq2 := hq.symm
            subst hq2
            clear hq
            refine ⟨_, rfl, ?_⟩
            refine hK.out _ _ hHeld (fun hHeld => ?_)
            clear hK K
            refine norm_ (a' := ?_) ?_ ?_
            rotate_left
            · show Act.put _ (some 29) _ = _
              simp only [Act.put, List.setIfInBounds_toArray, List.set_cons_zero, List.set_cons_succ, i64_w, i32_w]
              rfl
            refine pure_ (i := 5) (N := some 30) (v := ?_) (a' := ?_) #[true, true, true, true, true, true, false, false, false, false, false, false, false, false] rfl rfl (any_of HT_.out (by kernel_rfl)) (fun _ _ _ h => h) (Or.inl ⟨by rfl, ?_⟩) ?_ ?_
            rotate_left
            · intro w'
              go_simp
              with_reducible rfl
            rotate_left
            · simp only [Act.put, List.setIfInBounds_toArray, List.set_cons_zero, List.set_cons_succ, i64_w, i32_w]
              rfl
            refine pure_ (i := 6) (N := some 31) (v := ?_) (a' := ?_) #[true, true, true, true, true, true, true, false, false, false, false, false, false, false] rfl rfl (any_of HT_.out (by kernel_rfl)) (fun _ _ _ h => h) (Or.inl ⟨by rfl, ?_⟩) ?_ ?_
            rotate_left
            · intro w'
              go_simp
              with_reducible rfl
            rotate_left
            · simp only [Act.put, List.setIfInBounds_toArray, List.set_cons_zero, List.set_cons_succ, i64_w, i32_w]
              rfl
            refine pure_ (i := 7) (N := some 32) (v := ?_) (a' := ?_) #[true, true, true, true, true, true, true, true, false, false, false, false, false, false] rfl rfl (any_of HT_.out (by kernel_rfl)) (fun _ _ _ h => h) (Or.inl ⟨by rfl, ?_⟩) ?_ ?_
            rotate_left
            · intro w'
              go_simp
              with_reducible rfl
            rotate_left
            · simp only [Act.put, List.setIfInBounds_toArray, List.set_cons_zero, List.set_cons_succ, i64_w, i32_w]
              rfl
            refine take_ (i := 8) (N := some 33) (v := ?_) (a' := ?_) #[true, true, true, true, true, true, true, true, true, false, false, false, false, false] rfl rfl (take_ofW HT_.out HW_.out (by kernel_rfl)) (fun _ _ _ h => h) (Or.inl ⟨by rfl, ?_⟩) hHeld ?_ ?_
            rotate_left
            · rintro w' ⟨s0, s1, s2⟩
              go_simp
              with_reducible rfl
            rotate_left
            · simp only [Act.put, List.setIfInBounds_toArray, List.set_cons_zero, List.set_cons_succ, i64_w, i32_w]
              rfl
            refine one_ (i := 9) (N := some 34) #[true, true, true, true, true, true, true, true, true, true, false, false, false, false] rfl rfl (one_of HT_.out (by kernel_rfl)) (by decide) (fun K hK => ?_)
            refine call_ 118 #[.int .i64 ga.f1, .pointer (some ⟨gx, 0, none⟩)] (by rfl) rfl ?hrun9t ?h9t
            case hrun9t =>
              have he := enters_of Try.func118 (by kernel_rfl) rfl
              unfold execOp
              simp [resolve, Deferred.ofValue, invoke, Act.eval, he]
            refine (hf1 w20 hHeld.1 (C_ofR HO.out)).mono ?_
            rintro e w' ⟨rfl, hq⟩
            have hq2 := hq.symm
            subst hq2
            clear hq
            refine ⟨_, rfl, ?_⟩
            refine hK.out _ _ hHeld (fun hHeld => ?_)
            clear hK K
            refine norm_ (a' := ?_) ?_ ?_
            rotate_left
            · show Act.put _ (some 34) _ = _
              simp only [Act.put, List.setIfInBounds_toArray, List.set_cons_zero, List.set_cons_succ, i64_w, i32_w]
              rfl
            refine pure_ (i := 10) (N := some 35) (v := ?_) (a' := ?_) #[true, true, true, true, true, true, true, true, true, true, true, false, false, false] rfl rfl (any_of HT_.out (by kernel_rfl)) (fun _ _ _ h => h) (Or.inl ⟨by rfl, ?_⟩) ?_ ?_
            rotate_left
            · intro w'
              go_simp
              with_reducible rfl
            rotate_left
            · simp only [Act.put, List.setIfInBounds_toArray, List.set_cons_zero, List.set_cons_succ, i64_w, i32_w]
              rfl
            refine one_ (i := 11) (N := some 36) #[true, true, true, true, true, true, true, true, true, true, true, true, false, false] rfl rfl (one_of HT_.out (by kernel_rfl)) (by decide) (fun K hK => ?_)
            refine value_ (w1 := ?_) (v := ?_) (by rfl) rfl ?_ ?_
            rotate_left 2
            · go_simp
              constructor
              · rfl
              · rfl
            refine hK.out _ _ ⟨(blk_cell (blk_alloc BX.out _) 0).trans rfl, (blk_cell (blk_alloc BY.out _) 0).trans rfl, (blk_cell (blk_alloc BY.out _) 1).trans rfl⟩ (fun hHeld => ?_)
            clear hK K
            refine norm_ (a' := ?_) ?_ ?_
            rotate_left
            · show Act.put _ (some 36) _ = _
              simp only [Act.put, List.setIfInBounds_toArray, List.set_cons_zero, List.set_cons_succ, i64_w, i32_w]
              rfl
            refine one_ (i := 12) (N := some 37) #[true, true, true, true, true, true, true, true, true, true, true, true, true, false] rfl rfl (one_of HT_.out (by kernel_rfl)) (by decide) (fun K hK => ?_)
            refine Kd.R_append_step Kd.bool (w0 := w) w.heap.size (by rfl) (.tmp 25) (.tmp 36) 25 4 (.bool false) 1 rfl Try.underlying25 info4 rfl (by decide) (by omega) (.slice A6 ns.length c6) ns b [.bool b] (fun k => k ≠ gx) (fun _ => False) rfl rfl ?aP (fun _ h => h.elim) ?aF ?aO ?aB ?aS ?aL ?_
            (case aP => exact (show Kd.M Kd.bool _ _ _ b [.bool b] from rfl))
            (case aB => exact HB.out)
            (case aF => exact (fun k hk e_ => Nat.not_lt.2 hk (by rw [e_]; exact evalAig_lt BX.out)))
            (case aO => exact HO.out)
            (case aS => exact below_size HB.out)
            (case aL => have := HL.out; omega)
            intro v5 w21 ho hb hg2 hat
            obtain ⟨A7, c7, e7⟩ := Kd.R_slice ho
            subst e7
            have e8 : (ns ++ [b]).length = ns.length + 1 := by simp
            rw [e8] at ho
            clear e8
            have n0_ := Aside0.mk (blk_grown (g := gx) (o := .cells #[.slice A6 ns.length c6] 25 (0, 0)) BX.out hg2 (Kd.R_ne HO.out BX.out (by decide)))
            have n1_ := Aside0.mk (blk_grown (g := gy) (o := .cells #[.int .i64 ga.f0, .int .i64 ga.f1] 114 (0, 0)) BY.out hg2 (Kd.R_ne HO.out BY.out (by decide)))
            have n2_ := Aside0.mk hb
            have n3_ := Aside0.mk ho
            clear BX BY HB HO
            have BX := n0_
            have BY := n1_
            have HB := n2_
            have HO := n3_
            clear n0_ n1_ n2_ n3_ ho hb hg2 hat
            refine hK.out _ _ ⟨(blk_cell BX.out 0).trans rfl, (blk_cell BY.out 0).trans rfl, (blk_cell BY.out 1).trans rfl⟩ (fun hHeld => ?_)
            clear hK K
            refine norm_ (a' := ?_) ?_ ?_
            rotate_left
            · show Act.put _ (some 37) _ = _
              simp only [Act.put, List.setIfInBounds_toArray, List.set_cons_zero, List.set_cons_succ, i64_w, i32_w]
              rfl
            refine last_ (i := 13) (N := none) #[true, true, true, true, true, true, true, true, true, true, true, true, true, true] rfl rfl (one_of HT_.out (by kernel_rfl)) (by decide) (fun K hK => ?_)
            have hs1 : w21.cell? ⟨gx, 0, none⟩ = some (.slice A6 ns.length c6) := (blk_cell BX.out 0).trans rfl
            have hfs1 := blk_frozen BX.out 0
            refine skip_ (w1 := ?_) (by rfl) rfl ?_ ?_
            rotate_left
            · go_simp
              rfl
            refine hK.out _ _ ?_
            clear hK K
            refine done_ (done_of HT_.out (by kernel_rfl)) ?_
            go_wp2
            go_roundg (l0_1.length - (kk + 1))
            case measure => omega
            case rel => exact ⟨kk + 1, ns ++ [b], .slice A7 (ns.length + 1) c7, by go_num, by omega, by omega, HA2, ⟨Kd.R_far (p := ⟨gx, 0, none⟩) HO.out (fun _ hk => hk) _⟩, ⟨blk_set_own BX.out⟩, ⟨HB.out.setCell HG.out _⟩⟩
          | false =>
            rw [if_neg (by decide)] at hb
            obtain rfl : false = b := Option.some.inj hb
            have hf0 := hfn ga.f0 false ha
            clear hfn ha hb
            go_upto_region 6 with fail
            rw [HW1.out, HGY.out]
            clear hx0 hx1 HW1 HGY HB
            have HO := HO1
            have HB := HB1
            clear HO1 HB1
            refine start_ (n := 14) (S := fun w' => w'.cell? ⟨gx, 0, none⟩ = some (.slice A6 ns.length c6) ∧ w'.cell? ⟨gy, 0, none⟩ = some (.int .i64 ga.f0) ∧ w'.cell? ⟨gy, 1, none⟩ = some (.int .i64 ga.f1)) (ds := [13]) #[false, false, false, false, false, false, false, false, false, false, false, false, false, false] (by kernel_rfl) rfl rfl ⟨(blk_cell BX.out 0).trans rfl, (blk_cell BY.out 0).trans rfl, (blk_cell BY.out 1).trans rfl⟩ (fun hHeld => ?_); refine with_tabW evalAig_tab6 evalAig_bits6 (fun HT_ HW_ => ?_)
            replace BX : Aside0 (W1.drew.heap[gx]? = some (.cells #[.slice A6 ns.length c6] 25 (0, 0))) := ⟨BX.out⟩
            replace BY : Aside0 (W1.drew.heap[gy]? = some (.cells #[.int .i64 ga.f0, .int .i64 ga.f1] 114 (0, 0))) := ⟨BY.out⟩
            replace HO : Aside0 (Kd.R Kd.bool 4 W1.drew w.heap.size (fun k => k ≠ gx) (.slice A6 ns.length c6) ns) := ⟨Kd.R_drew HO.out⟩
            replace HB : Aside0 (Below w.heap.size w W1.drew) := ⟨HB.out.drew⟩
            generalize W1.drew = w20 at BX BY HO HB hHeld ⊢
            refine pure_ (i := 1) (N := some 26) (v := ?_) (a' := ?_) #[false, true, false, false, false, false, false, false, false, false, false, false, false, false] rfl rfl (any_of HT_.out (by kernel_rfl)) (fun _ _ _ h => h) (Or.inl ⟨by rfl, ?_⟩) ?_ ?_
            rotate_left
            · intro w'
              go_simp
              with_reducible rfl
            rotate_left
            · simp only [Act.put, List.setIfInBounds_toArray, List.set_cons_zero, List.set_cons_succ, i64_w, i32_w]
              rfl
            refine pure_ (i := 2) (N := some 27) (v := ?_) (a' := ?_) #[false, true, true, false, false, false, false, false, false, false, false, false, false, false] rfl rfl (any_of HT_.out (by kernel_rfl)) (fun _ _ _ h => h) (Or.inl ⟨by rfl, ?_⟩) ?_ ?_
            rotate_left
            · intro w'
              go_simp
              with_reducible rfl
            rotate_left
            · simp only [Act.put, List.setIfInBounds_toArray, List.set_cons_zero, List.set_cons_succ, i64_w, i32_w]
              rfl
            refine take_ (i := 0) (N := some 25) (v := ?_) (a' := ?_) #[true, true, true, false, false, false, false, false, false, false, false, false, false, false] rfl rfl (take_ofW HT_.out HW_.out (by kernel_rfl)) (fun _ _ _ h => h) (Or.inl ⟨by rfl, ?_⟩) hHeld ?_ ?_
            rotate_left
            · rintro w' ⟨s0, s1, s2⟩
              go_simp
              with_reducible rfl
            rotate_left
            · simp only [Act.put, List.setIfInBounds_toArray, List.set_cons_zero, List.set_cons_succ, i64_w, i32_w]
              rfl
            refine take_ (i := 3) (N := some 28) (v := ?_) (a' := ?_) #[true, true, true, true, false, false, false, false, false, false, false, false, false, false] rfl rfl (take_ofW HT_.out HW_.out (by kernel_rfl)) (fun _ _ _ h => h) (Or.inl ⟨by rfl, ?_⟩) hHeld ?_ ?_
            rotate_left
            · rintro w' ⟨s0, s1, s2⟩
              go_simp
              with_reducible rfl
            rotate_left
            · simp only [Act.put, List.setIfInBounds_toArray, List.set_cons_zero, List.set_cons_succ, i64_w, i32_w]
              rfl
            refine one_ (i := 4) (N := some 29) #[true, true, true, true, true, false, false, false, false, false, false, false, false, false] rfl rfl (one_of HT_.out (by kernel_rfl)) (by decide) (fun K hK => ?_)
            refine call_ 118 #[.int .i64 ga.f0, .pointer (some ⟨gx, 0, none⟩)] (by rfl) rfl ?hrun4f ?h4f
            case hrun4f =>
              have he := enters_of Try.func118 (by kernel_rfl) rfl
              unfold execOp
              simp [resolve, Deferred.ofValue, invoke, Act.eval, he]
            refine (hf0 w20 hHeld.1 (C_ofR HO.out)).mono ?_
            rintro e w' ⟨rfl, hq⟩
            have hq2 := hq.symm
            subst hq2
            clear hq
            refine ⟨_, rfl, ?_⟩
            refine hK.out _ _ hHeld (fun hHeld => ?_)
            clear hK K
            refine norm_ (a' := ?_) ?_ ?_
            rotate_left
            · show Act.put _ (some 29) _ = _
              simp only [Act.put, List.setIfInBounds_toArray, List.set_cons_zero, List.set_cons_succ, i64_w, i32_w]
              rfl
            refine pure_ (i := 5) (N := some 30) (v := ?_) (a' := ?_) #[true, true, true, true, true, true, false, false, false, false, false, false, false, false] rfl rfl (any_of HT_.out (by kernel_rfl)) (fun _ _ _ h => h) (Or.inl ⟨by rfl, ?_⟩) ?_ ?_
            rotate_left
            · intro w'
              go_simp
              with_reducible rfl
            rotate_left
            · simp only [Act.put, List.setIfInBounds_toArray, List.set_cons_zero, List.set_cons_succ, i64_w, i32_w]
              rfl
            refine pure_ (i := 6) (N := some 31) (v := undef) (a' := ?_) #[true, true, true, true, true, true, true, false, false, false, false, false, false, false] rfl rfl (any_of HT_.out (by kernel_rfl)) (fun _ _ _ h => h) (Or.inr ⟨by rfl, rfl⟩) ?_ ?_
            rotate_left
            · simp only [Act.put, List.setIfInBounds_toArray, List.set_cons_zero, List.set_cons_succ, i64_w, i32_w]
              rfl
            refine pure_ (i := 7) (N := some 32) (v := undef) (a' := ?_) #[true, true, true, true, true, true, true, true, false, false, false, false, false, false] rfl rfl (any_of HT_.out (by kernel_rfl)) (fun _ _ _ h => h) (Or.inr ⟨by rfl, rfl⟩) ?_ ?_
            rotate_left
            · simp only [Act.put, List.setIfInBounds_toArray, List.set_cons_zero, List.set_cons_succ, i64_w, i32_w]
              rfl
            refine pure_ (i := 8) (N := some 33) (v := undef) (a' := ?_) #[true, true, true, true, true, true, true, true, true, false, false, false, false, false] rfl rfl (any_of HT_.out (by kernel_rfl)) (fun _ _ _ h => h) (Or.inr ⟨by rfl, rfl⟩) ?_ ?_
            rotate_left
            · simp only [Act.put, List.setIfInBounds_toArray, List.set_cons_zero, List.set_cons_succ, i64_w, i32_w]
              rfl
            refine one_ (i := 9) (N := some 34) #[true, true, true, true, true, true, true, true, true, true, false, false, false, false] rfl rfl (one_of HT_.out (by kernel_rfl)) (by decide) (fun K hK => ?_)
            refine off_ (by rfl) ?_
            refine hK.out _ _ hHeld (fun hHeld => ?_)
            clear hK K
            refine norm_ (a' := ?_) ?_ ?_
            rotate_left
            · show Act.put _ (some 34) _ = _
              simp only [Act.put, List.setIfInBounds_toArray, List.set_cons_zero, List.set_cons_succ, i64_w, i32_w]
              rfl
            refine pure_ (i := 10) (N := some 35) (v := ?_) (a' := ?_) #[true, true, true, true, true, true, true, true, true, true, true, false, false, false] rfl rfl (any_of HT_.out (by kernel_rfl)) (fun _ _ _ h => h) (Or.inl ⟨by rfl, ?_⟩) ?_ ?_
            rotate_left
            · intro w'
              go_simp
              with_reducible rfl
            rotate_left
            · simp only [Act.put, List.setIfInBounds_toArray, List.set_cons_zero, List.set_cons_succ, i64_w, i32_w]
              rfl
            refine one_ (i := 11) (N := some 36) #[true, true, true, true, true, true, true, true, true, true, true, true, false, false] rfl rfl (one_of HT_.out (by kernel_rfl)) (by decide) (fun K hK => ?_)
            refine value_ (w1 := ?_) (v := ?_) (by rfl) rfl ?_ ?_
            rotate_left 2
            · go_simp
              constructor
              · rfl
              · rfl
            refine hK.out _ _ ⟨(blk_cell (blk_alloc BX.out _) 0).trans rfl, (blk_cell (blk_alloc BY.out _) 0).trans rfl, (blk_cell (blk_alloc BY.out _) 1).trans rfl⟩ (fun hHeld => ?_)
            clear hK K
            refine norm_ (a' := ?_) ?_ ?_
            rotate_left
            · show Act.put _ (some 36) _ = _
              simp only [Act.put, List.setIfInBounds_toArray, List.set_cons_zero, List.set_cons_succ, i64_w, i32_w]
              rfl
            refine one_ (i := 12) (N := some 37) #[true, true, true, true, true, true, true, true, true, true, true, true, true, false] rfl rfl (one_of HT_.out (by kernel_rfl)) (by decide) (fun K hK => ?_)
            refine Kd.R_append_step Kd.bool (w0 := w) w.heap.size (by rfl) (.tmp 25) (.tmp 36) 25 4 (.bool false) 1 rfl Try.underlying25 info4 rfl (by decide) (by omega) (.slice A6 ns.length c6) ns false [.bool false] (fun k => k ≠ gx) (fun _ => False) rfl rfl ?aP (fun _ h => h.elim) ?aF ?aO ?aB ?aS ?aL ?_
            (case aP => exact (show Kd.M Kd.bool _ _ _ false [.bool false] from rfl))
            (case aB => exact HB.out)
            (case aF => exact (fun k hk e_ => Nat.not_lt.2 hk (by rw [e_]; exact evalAig_lt BX.out)))
            (case aO => exact HO.out)
            (case aS => exact below_size HB.out)
            (case aL => have := HL.out; omega)
            intro v5 w21 ho hb hg2 hat
            obtain ⟨A7, c7, e7⟩ := Kd.R_slice ho
            subst e7
            have e8 : (ns ++ [false]).length = ns.length + 1 := by simp
            rw [e8] at ho
            clear e8
            have n0_ := Aside0.mk (blk_grown (g := gx) (o := .cells #[.slice A6 ns.length c6] 25 (0, 0)) BX.out hg2 (Kd.R_ne HO.out BX.out (by decide)))
            have n1_ := Aside0.mk (blk_grown (g := gy) (o := .cells #[.int .i64 ga.f0, .int .i64 ga.f1] 114 (0, 0)) BY.out hg2 (Kd.R_ne HO.out BY.out (by decide)))
            have n2_ := Aside0.mk hb
            have n3_ := Aside0.mk ho
            clear BX BY HB HO
            have BX := n0_
            have BY := n1_
            have HB := n2_
            have HO := n3_
            clear n0_ n1_ n2_ n3_ ho hb hg2 hat
            refine hK.out _ _ ⟨(blk_cell BX.out 0).trans rfl, (blk_cell BY.out 0).trans rfl, (blk_cell BY.out 1).trans rfl⟩ (fun hHeld => ?_)
            clear hK K
            refine norm_ (a' := ?_) ?_ ?_
            rotate_left
            · show Act.put _ (some 37) _ = _
              simp only [Act.put, List.setIfInBounds_toArray, List.set_cons_zero, List.set_cons_succ, i64_w, i32_w]
              rfl
            refine last_ (i := 13) (N := none) #[true, true, true, true, true, true, true, true, true, true, true, true, true, true] rfl rfl (one_of HT_.out (by kernel_rfl)) (by decide) (fun K hK => ?_)
            have hs1 : w21.cell? ⟨gx, 0, none⟩ = some (.slice A6 ns.length c6) := (blk_cell BX.out 0).trans rfl
            have hfs1 := blk_frozen BX.out 0
            refine skip_ (w1 := ?_) (by rfl) rfl ?_ ?_
            rotate_left
            · go_simp
              rfl
            refine hK.out _ _ ?_
            clear hK K
            refine done_ (done_of HT_.out (by kernel_rfl)) ?_
            go_wp2
            go_roundg (l0_1.length - (kk + 1))
            case measure => omega
            case rel => exact ⟨kk + 1, ns ++ [false], .slice A7 (ns.length + 1) c7, by go_num, by omega, by omega, HA2, ⟨Kd.R_far (p := ⟨gx, 0, none⟩) HO.out (fun _ hk => hk) _⟩, ⟨blk_set_own BX.out⟩, ⟨HB.out.setCell HG.out _⟩⟩
        · rw [if_neg hl] at hA
          cases hA
      · have hk' : kk = l0_1.length := by omega
        subst hk'
        obtain ⟨A6, c6, ev⟩ := Kd.R_slice HO.out
        subst ev
        have hA := HA.out
        rw [List.drop_length, gatesO, Option.bind_some] at hA
        obtain ⟨W2, hW2⟩ : ∃ W2 : World, W2 = wr := ⟨_, rfl⟩
        subst hW2
        have H2 : Aside0 (outO ns (l1.drop 0) [] = some r) := ⟨hA⟩
        have hn1 : l1.length ≤ 9223372036854775807 := Kd.C_max HR1.out
        have hfn := fun (x : Int) (q : Bool) (hq : litO ns x = some q) (V : World) (hV : Below W2.heap.size W2 V) => evalAig_fn ns x q hq A6 c6 gx V ((hV.cell (World.block_lt_of_cell? W2 _ ((blk_cell HX.out 0).trans rfl : W2.cell? ⟨gx, 0, none⟩ = some (.slice A6 ns.length c6)))).trans ((blk_cell HX.out 0).trans rfl)) (Kd.C_below (C_ofR HO.out) hV)
        have HF := Aside0.mk hfn
        have HO0 : Aside0 (Kd.R Kd.bool 4 W2 W2.heap.size (fun _ => True) (.slice none 0 0) []) := ⟨Kd.R_nil _ _ _ _ _⟩
        clear hA HA hfn HO
        go_wp2_with fail
        go_loopg [11, 41] l1.length (fun gg v11 v41 wr2 => ∃ (jj : Nat) (out : List Bool), v41 = .int .i64 jj ∧ jj ≤ l1.length ∧ l1.length - jj ≤ gg ∧ Aside0 (outO ns (l1.drop jj) out = some r) ∧ Aside0 (Kd.R Kd.bool 4 wr2 W2.heap.size (fun _ => True) v11 out) ∧ Aside0 (Below W2.heap.size W2 wr2))
        case atStart => exact ⟨0, [], rfl, Nat.zero_le _, by omega, H2, HO0, ⟨Below.refl _ _⟩⟩
        case round =>
          clear H2 HO0
          obtain ⟨jj, out, rfl, hj, hg2, HA, HO, HB2⟩ := hrel
          by_cases hlt2 : jj < l1.length
          · have hltz : (jj : Int) < (l1.length : Int) := by omega
            obtain ⟨ad, ea, hx0⟩ := Kd.at_int HR1.out (jj : Int) (by omega) hltz
            subst ea
            rw [Int.toNat_natCast] at hx0
            replace hx0 := (HB.out.cell (World.block_lt_of_cell? w _ hx0)).trans hx0
            replace hx0 := (HB2.out.cell (World.block_lt_of_cell? W2 _ hx0)).trans hx0
            obtain ⟨A8, c8, ev⟩ := Kd.R_slice HO.out
            subst ev
            have hrd : rd l1 (jj : Int) = l1[jj] := by unfold rd; simp [List.getD, hlt2]
            have hA := HA.out
            rw [List.drop_eq_getElem_cons hlt2, outO, ← hrd] at hA
            generalize rd l1 (jj : Int) = x at hx0 hA hrd
            cases hq : litO ns x with
            | none => rw [hq] at hA; simp at hA
            | some b =>
            rw [hq, Option.bind_some] at hA
            by_cases hl : out.length < 140737488355328
            · rw [if_pos hl] at hA
              have HA2 := Aside0.mk hA
              have HL := Aside0.mk hl
              have hcall := HF.out x b hq wr HB2.out
              clear hA hrd hl HA hq
              go_wp2_with (first
                | (refine hcall.mono ?_; rintro e w' ⟨rfl, hq⟩; have hq2 := hq.symm; subst hq2; clear hq)
                | ((with_reducible refine gate_builtin (b := .append) (xs := #[.tmp 45, .tmp 49]) rfl ?_); at_builtin; refine Kd.R_append Kd.bool (w0 := W2) W2.heap.size rfl (.tmp 45) (.tmp 49) 25 4 (.bool false) 1 rfl Try.underlying25 info4 rfl (by decide) (by omega) (.slice A8 out.length c8) out b [.bool b] (fun _ => True) (fun _ => False) rfl (by first | (go_simp; done) | (go_simp; rfl)) ?aP (fun _ hk => hk.elim) ?aF ?aO ?aB ?aS ?aL ?_; (case aP => exact rfl); (case aB => exact HB2.out); (case aF => exact (fun _ _ => trivial)); (case aO => exact HO.out); (case aS => exact HB2.out.size); (case aL => have := HL.out; omega); intro v9 w9 ho hb9 hg9 hat; obtain ⟨A9, c9, e9⟩ := Kd.R_slice ho; subst e9; have e8 : (out ++ [b]).length = out.length + 1 := (by simp); rw [e8] at ho; clear e8; have n0_ := Aside0.mk hb9; have n1_ := Aside0.mk ho; clear HB2 HO; have HB2 := n0_; have HO := n1_; clear n0_ n1_ ho hb9 hg9 hat))
              go_roundg (l1.length - (jj + 1))
              case measure => omega
              case rel => exact ⟨jj + 1, out ++ [b], by go_num, by omega, by omega, HA2, HO, HB2⟩
            · rw [if_neg hl] at hA
              cases hA
          · have hj' : jj = l1.length := by omega
            subst hj'
            have hA := HA.out
            rw [List.drop_length, outO] at hA
            obtain rfl := Option.some.inj hA
            clear hA HA
            go_wp2
            go_ret
            exact ⟨_, rfl, Kd.R_lower HO.out (below_size HB.out), HB.out.trans (HB2.out.mono (below_size HB.out))⟩
  · rw [if_neg c3] at h
    cases h

/-! ### impl_EvalAig: function 22 -/
/-- a literal of a circuit of so many inputs and gates -/
def aigLitB (inp : Int) (l : List (S114)) (x : Int) : Bool := decide (0 ≤ x) && decide (x ≤ wrap64 ((wrap64 (2 * wrap64 ((wrap64 (1 + inp)) + (l.length : Int)))) - 1))
theorem aigLit_is (inp : Int) (l : List (S114)) (x : Int) : impl_isAigLiteral.f inp l x = some (aigLitB inp l x) := by
  unfold impl_isAigLiteral.f impl_nodesOf.f impl_within.f aigLitB
  rw [Option.bind_some]
  by_cases h : x ≥ 0
  · rw [if_pos h, decide_eq_true (show 0 ≤ x from h)]
    rfl
  · rw [if_neg h, decide_eq_false (show ¬ 0 ≤ x from h)]
    rfl
set_option maxHeartbeats 4000000 in
set_option maxRecDepth 100000 in
theorem EvalAig_fn (x inp : Int) (A0 : Option Addr) (c0 : Nat) (l : List (S114)) (B : Nat) (W : World) (h0 : W.cell? ⟨B, 0, none⟩ = some (.int .i64 inp)) (h1 : W.cell? ⟨B, 1, none⟩ = some (.slice A0 l.length c0)) (hr : Kd.C k114 W A0 l.length l) (hc : l.length ≤ c0) :
    Calls Try.prog 71 #[.int .i64 x, .pointer (some ⟨B, 0, none⟩)] W fun e W' => e = .returned (.bool (!(aigLitB inp l x))) ∧ Below W.heap.size W W' := by
  have hcall := impl_isAigLiteral.calls inp A0 c0 l x _ W hr hc (aigLit_is inp l x)
  have hu := Try.underlying46
  generalize aigLitB inp l x = b at hcall ⊢
  clear hr hc
  go_enter Try.func71, Try.ntmps71
  go_wp2_with (go_at_call 72; refine hcall.mono ?_; rintro e w' ⟨rfl, hb⟩)
  go_ret
  exact ⟨rfl, hb⟩
/-- some are none of the circuit's literals -/
def badLits (inp : Int) (l : List (S114)) (xs : List Int) : Bool := xs.any fun x => !(aigLitB inp l x)
def impl_EvalAig.f (k : Nat) (a0_0 : Int) (l0_1 : List (S114)) (l1 : List Int) (l2 : List Bool) : Option (List Bool × Int) := if (l1.length : Int) > 4096 then some ([], 2) else (if (l2.length : Int) > 4096 then some ([], 2) else ((impl_isAig.f k a0_0 l0_1).bind fun t => if t = true then (if (l2.length : Int) = a0_0 then (if badLits a0_0 l0_1 l1 = true then some ([], 5) else (impl_evalAig.f a0_0 l0_1 l1 l2).bind fun o => some (o, 0)) else some ([], 5)) else some ([], 1)))
theorem impl_EvalAig.mono : ∀ a0 a1 a2 a3 k, LeO (impl_EvalAig.f k a0 a1 a2 a3) (impl_EvalAig.f (k + 1) a0 a1 a2 a3) := by
  intro a0 a1 a2 a3 k
  unfold impl_EvalAig.f
  repeat' first
      | (with_reducible exact impl_isAig.mono _ _ _)
      | (with_reducible exact LeO.refl _)
      | (with_reducible exact LeO.none _)
      | (with_reducible refine LeO.ite ?_ ?_)
      | (with_reducible refine LeO.bind ?_ fun _ => ?_)
set_option maxHeartbeats 4000000 in
set_option maxRecDepth 100000 in
theorem impl_EvalAig.calls (k : Nat) (a0_0 : Int) (A0_1 : Option Addr) (c0_1 : Nat) (l0_1 : List (S114)) (A1 : Option Addr) (c1 : Nat) (l1 : List Int) (A2 : Option Addr) (c2 : Nat) (l2 : List Bool) (r1 : List Bool) (r2 : Int) (w : World) (hr0_1 : Kd.C k114 w A0_1 l0_1.length l0_1) (hc0_1 : l0_1.length ≤ c0_1) (hr1 : Kd.C (Kd.int .i64) w A1 l1.length l1) (hc1 : l1.length ≤ c1) (hr2 : Kd.C Kd.bool w A2 l2.length l2) (hc2 : l2.length ≤ c2) (h : impl_EvalAig.f k a0_0 l0_1 l1 l2 = some (r1, r2)) :
    Calls Try.prog 22 #[.agg #[.int .i64 a0_0, .slice A0_1 l0_1.length c0_1], .slice A1 l1.length c1, .slice A2 l2.length c2] w fun e w' => ∃ v0_ : Value, e = .returned (.tuple #[v0_, .int .i64 r2]) ∧ Kd.R Kd.bool 4 w' w.heap.size (fun _ => True) v0_ r1 ∧ Below w.heap.size w w' := by
  unfold impl_EvalAig.f at h
  have hB0 : Below w.heap.size w (w.alloc (.cells #[.int .i64 a0_0, .slice A0_1 l0_1.length c0_1] 46)) := (Below.refl _ _).alloc (Nat.le_refl _) _
  have HR := Aside0.mk hr0_1
  have HC := Aside0.mk hc0_1
  have HR1 := Aside0.mk hr1
  have HC1 := Aside0.mk hc1
  have HR2 := Aside0.mk hr2
  have HC2 := Aside0.mk hc2
  have HB := Aside0.mk hB0
  clear hr0_1 hc0_1 hr1 hc1 hr2 hc2 hB0
  have hu := Try.underlying46
  by_cases t1 : (l1.length : Int) > 4096
  · rw [if_pos t1] at h
    obtain ⟨rfl, rfl⟩ : [] = r1 ∧ 2 = r2 := by simpa using h
    clear h
    go_enter Try.func22, Try.ntmps22
    go_wp2
    go_ret2
    exact ⟨_, rfl, Kd.R_nil _ _ _ _ _, HB.out⟩
  · rw [if_neg t1] at h
    by_cases t2 : (l2.length : Int) > 4096
    · rw [if_pos t2] at h
      obtain ⟨rfl, rfl⟩ : [] = r1 ∧ 2 = r2 := by simpa using h
      clear h
      go_enter Try.func22, Try.ntmps22
      go_wp2
      go_ret2
      exact ⟨_, rfl, Kd.R_nil _ _ _ _ _, HB.out⟩
    · rw [if_neg t2] at h
      cases hI : impl_isAig.f k a0_0 l0_1 with
      | none => rw [hI] at h; simp at h
      | some t =>
      rw [hI, Option.bind_some] at h
      obtain ⟨W0, hW0, hx0, hx1⟩ : ∃ W0, (w.alloc (.cells #[.int .i64 a0_0, .slice A0_1 l0_1.length c0_1] 46)) = W0 ∧ W0.cell? ⟨w.heap.size, 0, none⟩ = some (.int .i64 a0_0) ∧ W0.cell? ⟨w.heap.size, 1, none⟩ = some (.slice A0_1 l0_1.length c0_1) := by
        refine ⟨_, rfl, ?_, ?_⟩
        · go_simp
        · go_simp
      rw [hW0] at HB
      have HW0 := Aside0.mk hW0
      have HX := Aside0.mk (And.intro hx0 hx1)
      have hcell : ∀ V, Below W0.heap.size W0 V → V.cell? ⟨w.heap.size, 0, none⟩ = some (.int .i64 a0_0) ∧ V.cell? ⟨w.heap.size, 1, none⟩ = some (.slice A0_1 l0_1.length c0_1) := fun V hV =>
        ⟨(hV.cell (World.block_lt_of_cell? W0 _ HX.out.1)).trans HX.out.1, (hV.cell (World.block_lt_of_cell? W0 _ HX.out.2)).trans HX.out.2⟩
      have HCL := Aside0.mk hcell
      have hiw := impl_isAig.calls k a0_0 A0_1 c0_1 l0_1 t W0 (Kd.C_below HR.out HB.out) HC.out hI
      clear hW0 hx0 hx1 hcell hI
      cases t with
      | false =>
        obtain ⟨rfl, rfl⟩ : [] = r1 ∧ 1 = r2 := by simpa using h
        clear h
        go_enter Try.func22, Try.ntmps22
        go_upto_region 3 with fail
        rw [HW0.out]
        obtain ⟨hx0, hx1⟩ := HX.out
        go_wp2_with (go_at_call 69; refine hiw.mono ?_; rintro e w1 ⟨rfl, hb⟩)
        go_ret2
        exact ⟨_, rfl, Kd.R_nil _ _ _ _ _, HB.out.trans (hb.mono HB.out.size)⟩
      | true =>
        rw [if_pos rfl] at h
        by_cases t3 : (l2.length : Int) = a0_0
        · rw [if_pos t3] at h
          have hcon := fun (V : World) (hV : Below W0.heap.size W0 V) =>
            anyIntL (fun x => !(aigLitB a0_0 l0_1 x)) 71 #[.pointer (some ⟨w.heap.size, 0, none⟩)] (enters_of Try.func71 (by kernel_rfl) rfl) A1 l1 c1 V (Kd.C_below (Kd.C_below HR1.out HB.out) hV)
              (fun x W hb => EvalAig_fn x a0_0 A0_1 c0_1 l0_1 _ W ((hb.cell (World.block_lt_of_cell? V _ (HCL.out V hV).1)).trans (HCL.out V hV).1) ((hb.cell (World.block_lt_of_cell? V _ (HCL.out V hV).2)).trans (HCL.out V hV).2) (Kd.C_below (Kd.C_below (Kd.C_below HR.out HB.out) hV) hb) HC.out)
          unfold badLits at h
          generalize (l1.any fun x => !(aigLitB a0_0 l0_1 x)) = bad at h hcon
          have HCON := Aside0.mk hcon
          clear hcon
          cases bad with
          | true =>
            obtain ⟨rfl, rfl⟩ : [] = r1 ∧ 5 = r2 := by simpa using h
            clear h
            go_enter Try.func22, Try.ntmps22
            go_upto_region 3 with fail
            rw [HW0.out]
            obtain ⟨hx0, hx1⟩ := HX.out
            go_wp2_with (first | (go_at_call 69; refine hiw.mono ?_; rintro e w1 ⟨rfl, hb⟩; obtain ⟨hy0, hy1⟩ := HCL.out w1 hb) | (go_at_call 70; refine (HCON.out w1 hb).mono ?_; rintro e w2 ⟨rfl, hbb⟩))
            go_ret2
            exact ⟨_, rfl, Kd.R_nil _ _ _ _ _, HB.out.trans ((hb.trans (hbb.mono hb.size)).mono HB.out.size)⟩
          | false =>
            obtain ⟨o, ho, hrr⟩ : ∃ o, impl_evalAig.f a0_0 l0_1 l1 l2 = some o ∧ (o, 0) = (r1, r2) := by
              cases hv : impl_evalAig.f a0_0 l0_1 l1 l2 with
              | none => rw [hv] at h; simp at h
              | some o => rw [hv] at h; exact ⟨o, rfl, by simpa using h⟩
            obtain ⟨rfl, rfl⟩ := Prod.mk.inj hrr
            have HV := Aside0.mk (fun (V : World) (hV : Below W0.heap.size W0 V) => impl_evalAig.calls a0_0 A0_1 c0_1 l0_1 A1 c1 l1 A2 c2 l2 o V (Kd.C_below (Kd.C_below HR.out HB.out) hV) HC.out (Kd.C_below (Kd.C_below HR1.out HB.out) hV) HC1.out (Kd.C_below (Kd.C_below HR2.out HB.out) hV) HC2.out ho)
            clear h ho hrr
            go_enter Try.func22, Try.ntmps22
            go_upto_region 3 with fail
            rw [HW0.out]
            obtain ⟨hx0, hx1⟩ := HX.out
            go_wp2_with (first | (go_at_call 69; refine hiw.mono ?_; rintro e w1 ⟨rfl, hb⟩; obtain ⟨hy0, hy1⟩ := HCL.out w1 hb) | (go_at_call 70; refine (HCON.out w1 hb).mono ?_; rintro e w2 ⟨rfl, hbb⟩; have hb2 := hb.trans (hbb.mono hb.size); obtain ⟨hz0, hz1⟩ := HCL.out w2 hb2) | (go_at_call 73; refine (HV.out w2 hb2).mono ?_; rintro e w3 ⟨v9, rfl, ho9, hb3⟩; obtain ⟨A9, c9, e9⟩ := Kd.R_slice ho9; subst e9))
            go_ret2
            have q1 := HB.out.trans (hb2.mono HB.out.size)
            exact ⟨_, rfl, Kd.R_lower ho9 (below_size q1), q1.trans (hb3.mono q1.size)⟩
        · rw [if_neg t3] at h
          obtain ⟨rfl, rfl⟩ : [] = r1 ∧ 5 = r2 := by simpa using h
          clear h
          go_enter Try.func22, Try.ntmps22
          go_upto_region 3 with fail
          rw [HW0.out]
          obtain ⟨hx0, hx1⟩ := HX.out
          go_wp2_with (go_at_call 69; refine hiw.mono ?_; rintro e w1 ⟨rfl, hb⟩; obtain ⟨hy0, hy1⟩ := HCL.out w1 hb)
          go_ret2
          exact ⟨_, rfl, Kd.R_nil _ _ _ _ _, HB.out.trans (hb.mono HB.out.size)⟩

/-! ### laws_eqGate: function 119 -/
def laws_eqGate.f (a0_0 : Int) (a0_1 : Int) (a1_0 : Int) (a1_1 : Int) : Option (Bool) := if a0_0 = a1_0 then (if a0_1 = a1_1 then (some true) else (some false)) else (some false)
set_option maxHeartbeats 8000000 in
set_option maxRecDepth 100000 in
theorem laws_eqGate.calls (a0_0 : Int) (a0_1 : Int) (a1_0 : Int) (a1_1 : Int) (r : Bool) (w : World) (h : laws_eqGate.f a0_0 a0_1 a1_0 a1_1 = some r) :
    Calls Try.prog 119 #[.agg #[.int .i64 a0_0, .int .i64 a0_1], .agg #[.int .i64 a1_0, .int .i64 a1_1]] w fun e w' => e = .returned (.bool r) ∧ Below w.heap.size w w' := by
  have hu114 := Try.underlying114
  have HB := Aside0.mk (Below.refl w.heap.size w)
  have H : (if a0_0 = a1_0 then (if a0_1 = a1_1 then (some true) else (some false)) else (some false)) = some r := h
  clear h
  by_cases c3 : a0_0 = a1_0
  · rw [if_pos c3] at H
    have c3b0 : (a0_0 == a1_0) = true := beq_iff_eq.mpr c3
    have c3b1 : (a0_0 != a1_0) = false := bne_eq_false_iff_eq.mpr c3
    clear c3
    by_cases c4 : a0_1 = a1_1
    · rw [if_pos c4] at H
      have c4b0 : (a0_1 == a1_1) = true := beq_iff_eq.mpr c4
      have c4b1 : (a0_1 != a1_1) = false := bne_eq_false_iff_eq.mpr c4
      clear c4
      obtain rfl := Option.some.inj H
      go_enter Try.func119, Try.ntmps119
      go_wp2_with (first | ((with_reducible refine gate_dst (N := 2) rfl ?_); refine box_event ?hg (N := 2) ?hd (cs := #[.int .i64 a0_0, .int .i64 a0_1]) (t := 114) ?hr ?_; (case hd => rfl); (case hg => rfl); (case hr => first | (go_simp; done) | (go_simp; rfl)); intro gb197 hg w5 hbox hb; have n0_ := Aside0.mk (below_step (by repeat (first | (with_reducible first | exact HB.out | apply below_alloc | apply pw_below_drewN | apply below_drew1) | exact HB.out)) hb); have n1_ := Aside0.mk (hbox); have n2_ := Aside0.mk ((by rw [hg]; exact (below_size (by repeat (first | (with_reducible first | exact HB.out | apply below_alloc | apply pw_below_drewN | apply below_drew1) | exact HB.out))) : w.heap.size ≤ gb197)); have n3_ := Aside0.mk ((by rw [hg]; exact (below_size (by repeat (first | (with_reducible first | exact HB.out | apply below_alloc | apply pw_below_drewN | apply below_drew1) | exact HB.out))) : w.heap.size ≤ gb197)); clear HB; have HB := n0_; have BK197 := n1_; have GW197 := n2_; have GE197 := n3_; clear n0_ n1_ n2_ n3_; clear hb hbox hg) | ((with_reducible refine gate_dst (N := 3) rfl ?_); refine box_event ?hg (N := 3) ?hd (cs := #[.int .i64 a1_0, .int .i64 a1_1]) (t := 114) ?hr ?_; (case hd => rfl); (case hg => rfl); (case hr => first | (go_simp; done) | (go_simp; rfl)); intro gb198 hg w6 hbox hb; have n0_ := Aside0.mk (blk_below (g := gb197) (o := .cells #[.int .i64 a0_0, .int .i64 a0_1] 114 (0, 0)) (by (with_reducible repeat (first | refine blk_drewN ?_ _ | refine blk_drew ?_ | refine blk_alloc ?_ _)); exact BK197.out) hb); have n1_ := Aside0.mk (below_step (by repeat (first | (with_reducible first | exact HB.out | apply below_alloc | apply pw_below_drewN | apply below_drew1 | refine below_set ?_ GE197.out) | exact HB.out)) hb); have n2_ := Aside0.mk (hbox); have n3_ := Aside0.mk ((by rw [hg]; exact (below_size (by repeat (first | (with_reducible first | exact HB.out | apply below_alloc | apply pw_below_drewN | apply below_drew1 | refine below_set ?_ GE197.out) | exact HB.out))) : w.heap.size ≤ gb198)); have n4_ := Aside0.mk ((by rw [hg]; exact (below_size (by repeat (first | (with_reducible first | exact HB.out | apply below_alloc | apply pw_below_drewN | apply below_drew1 | refine below_set ?_ GE197.out) | exact HB.out))) : w.heap.size ≤ gb198)); have n5_ := Aside0.mk ((by rw [hg]; exact Nat.ne_of_lt (blk_lt (g := gb197) (o := .cells #[.int .i64 a0_0, .int .i64 a0_1] 114 (0, 0)) (by (with_reducible repeat (first | refine blk_drewN ?_ _ | refine blk_drew ?_ | refine blk_alloc ?_ _)); exact BK197.out)) : gb197 ≠ gb198)); have n6_ := Aside0.mk ((by rw [hg]; exact Nat.ne_of_gt (blk_lt (g := gb197) (o := .cells #[.int .i64 a0_0, .int .i64 a0_1] 114 (0, 0)) (by (with_reducible repeat (first | refine blk_drewN ?_ _ | refine blk_drew ?_ | refine blk_alloc ?_ _)); exact BK197.out)) : gb198 ≠ gb197)); clear BK197; clear HB; have BK197 := n0_; have HB := n1_; have BK198 := n2_; have GW198 := n3_; have GE198 := n4_; have NB197_198 := n5_; have NB198_197 := n6_; clear n0_ n1_ n2_ n3_ n4_ n5_ n6_; clear hb hbox hg; have hnb7 := NB197_198.out; have hnc7 := NB198_197.out; have hcz8_0 : w6.cell? ⟨gb197, 0, none⟩ = some (.int .i64 a0_0) := (blk_cell BK197.out 0).trans rfl; have hcz8_1 : w6.cell? ⟨gb197, 1, none⟩ = some (.int .i64 a0_1) := (blk_cell BK197.out 1).trans rfl; have hfz8_0 := blk_frozen BK197.out 0; have hfz8_1 := blk_frozen BK197.out 1; have hcz9_0 : w6.cell? ⟨gb198, 0, none⟩ = some (.int .i64 a1_0) := (blk_cell BK198.out 0).trans rfl; have hcz9_1 : w6.cell? ⟨gb198, 1, none⟩ = some (.int .i64 a1_1) := (blk_cell BK198.out 1).trans rfl; have hfz9_0 := blk_frozen BK198.out 0; have hfz9_1 := blk_frozen BK198.out 1))
      go_ret
      exact ⟨by first | rfl | (simp [errW_none, errW_some] <;> rfl) | (simp [*, errW_none, errW_some] <;> rfl), by repeat (first | (with_reducible first | exact HB.out | apply below_alloc | apply pw_below_drewN | apply below_drew1 | refine below_set ?_ GE197.out | refine below_set ?_ GE198.out) | exact HB.out)⟩
    · rw [if_neg c4] at H
      have c4b0 : (a0_1 == a1_1) = false := beq_eq_false_iff_ne.mpr c4
      have c4b1 : (a0_1 != a1_1) = true := bne_iff_ne.mpr c4
      obtain rfl := Option.some.inj H
      go_enter Try.func119, Try.ntmps119
      go_wp2_with (first | ((with_reducible refine gate_dst (N := 2) rfl ?_); refine box_event ?hg (N := 2) ?hd (cs := #[.int .i64 a0_0, .int .i64 a0_1]) (t := 114) ?hr ?_; (case hd => rfl); (case hg => rfl); (case hr => first | (go_simp; done) | (go_simp; rfl)); intro gb197 hg w10 hbox hb; have n0_ := Aside0.mk (below_step (by repeat (first | (with_reducible first | exact HB.out | apply below_alloc | apply pw_below_drewN | apply below_drew1) | exact HB.out)) hb); have n1_ := Aside0.mk (hbox); have n2_ := Aside0.mk ((by rw [hg]; exact (below_size (by repeat (first | (with_reducible first | exact HB.out | apply below_alloc | apply pw_below_drewN | apply below_drew1) | exact HB.out))) : w.heap.size ≤ gb197)); have n3_ := Aside0.mk ((by rw [hg]; exact (below_size (by repeat (first | (with_reducible first | exact HB.out | apply below_alloc | apply pw_below_drewN | apply below_drew1) | exact HB.out))) : w.heap.size ≤ gb197)); clear HB; have HB := n0_; have BK197 := n1_; have GW197 := n2_; have GE197 := n3_; clear n0_ n1_ n2_ n3_; clear hb hbox hg) | ((with_reducible refine gate_dst (N := 3) rfl ?_); refine box_event ?hg (N := 3) ?hd (cs := #[.int .i64 a1_0, .int .i64 a1_1]) (t := 114) ?hr ?_; (case hd => rfl); (case hg => rfl); (case hr => first | (go_simp; done) | (go_simp; rfl)); intro gb198 hg w11 hbox hb; have n0_ := Aside0.mk (blk_below (g := gb197) (o := .cells #[.int .i64 a0_0, .int .i64 a0_1] 114 (0, 0)) (by (with_reducible repeat (first | refine blk_drewN ?_ _ | refine blk_drew ?_ | refine blk_alloc ?_ _)); exact BK197.out) hb); have n1_ := Aside0.mk (below_step (by repeat (first | (with_reducible first | exact HB.out | apply below_alloc | apply pw_below_drewN | apply below_drew1 | refine below_set ?_ GE197.out) | exact HB.out)) hb); have n2_ := Aside0.mk (hbox); have n3_ := Aside0.mk ((by rw [hg]; exact (below_size (by repeat (first | (with_reducible first | exact HB.out | apply below_alloc | apply pw_below_drewN | apply below_drew1 | refine below_set ?_ GE197.out) | exact HB.out))) : w.heap.size ≤ gb198)); have n4_ := Aside0.mk ((by rw [hg]; exact (below_size (by repeat (first | (with_reducible first | exact HB.out | apply below_alloc | apply pw_below_drewN | apply below_drew1 | refine below_set ?_ GE197.out) | exact HB.out))) : w.heap.size ≤ gb198)); have n5_ := Aside0.mk ((by rw [hg]; exact Nat.ne_of_lt (blk_lt (g := gb197) (o := .cells #[.int .i64 a0_0, .int .i64 a0_1] 114 (0, 0)) (by (with_reducible repeat (first | refine blk_drewN ?_ _ | refine blk_drew ?_ | refine blk_alloc ?_ _)); exact BK197.out)) : gb197 ≠ gb198)); have n6_ := Aside0.mk ((by rw [hg]; exact Nat.ne_of_gt (blk_lt (g := gb197) (o := .cells #[.int .i64 a0_0, .int .i64 a0_1] 114 (0, 0)) (by (with_reducible repeat (first | refine blk_drewN ?_ _ | refine blk_drew ?_ | refine blk_alloc ?_ _)); exact BK197.out)) : gb198 ≠ gb197)); clear BK197; clear HB; have BK197 := n0_; have HB := n1_; have BK198 := n2_; have GW198 := n3_; have GE198 := n4_; have NB197_198 := n5_; have NB198_197 := n6_; clear n0_ n1_ n2_ n3_ n4_ n5_ n6_; clear hb hbox hg; have hnb12 := NB197_198.out; have hnc12 := NB198_197.out; have hcz13_0 : w11.cell? ⟨gb197, 0, none⟩ = some (.int .i64 a0_0) := (blk_cell BK197.out 0).trans rfl; have hcz13_1 : w11.cell? ⟨gb197, 1, none⟩ = some (.int .i64 a0_1) := (blk_cell BK197.out 1).trans rfl; have hfz13_0 := blk_frozen BK197.out 0; have hfz13_1 := blk_frozen BK197.out 1; have hcz14_0 : w11.cell? ⟨gb198, 0, none⟩ = some (.int .i64 a1_0) := (blk_cell BK198.out 0).trans rfl; have hcz14_1 : w11.cell? ⟨gb198, 1, none⟩ = some (.int .i64 a1_1) := (blk_cell BK198.out 1).trans rfl; have hfz14_0 := blk_frozen BK198.out 0; have hfz14_1 := blk_frozen BK198.out 1))
      go_ret
      exact ⟨by first | rfl | (simp [errW_none, errW_some] <;> rfl) | (simp [*, errW_none, errW_some] <;> rfl), by repeat (first | (with_reducible first | exact HB.out | apply below_alloc | apply pw_below_drewN | apply below_drew1 | refine below_set ?_ GE197.out | refine below_set ?_ GE198.out) | exact HB.out)⟩
  · rw [if_neg c3] at H
    have c3b0 : (a0_0 == a1_0) = false := beq_eq_false_iff_ne.mpr c3
    have c3b1 : (a0_0 != a1_0) = true := bne_iff_ne.mpr c3
    obtain rfl := Option.some.inj H
    go_enter Try.func119, Try.ntmps119
    go_wp2_with (first | ((with_reducible refine gate_dst (N := 2) rfl ?_); refine box_event ?hg (N := 2) ?hd (cs := #[.int .i64 a0_0, .int .i64 a0_1]) (t := 114) ?hr ?_; (case hd => rfl); (case hg => rfl); (case hr => first | (go_simp; done) | (go_simp; rfl)); intro gb197 hg w15 hbox hb; have n0_ := Aside0.mk (below_step (by repeat (first | (with_reducible first | exact HB.out | apply below_alloc | apply pw_below_drewN | apply below_drew1) | exact HB.out)) hb); have n1_ := Aside0.mk (hbox); have n2_ := Aside0.mk ((by rw [hg]; exact (below_size (by repeat (first | (with_reducible first | exact HB.out | apply below_alloc | apply pw_below_drewN | apply below_drew1) | exact HB.out))) : w.heap.size ≤ gb197)); have n3_ := Aside0.mk ((by rw [hg]; exact (below_size (by repeat (first | (with_reducible first | exact HB.out | apply below_alloc | apply pw_below_drewN | apply below_drew1) | exact HB.out))) : w.heap.size ≤ gb197)); clear HB; have HB := n0_; have BK197 := n1_; have GW197 := n2_; have GE197 := n3_; clear n0_ n1_ n2_ n3_; clear hb hbox hg) | ((with_reducible refine gate_dst (N := 3) rfl ?_); refine box_event ?hg (N := 3) ?hd (cs := #[.int .i64 a1_0, .int .i64 a1_1]) (t := 114) ?hr ?_; (case hd => rfl); (case hg => rfl); (case hr => first | (go_simp; done) | (go_simp; rfl)); intro gb198 hg w16 hbox hb; have n0_ := Aside0.mk (blk_below (g := gb197) (o := .cells #[.int .i64 a0_0, .int .i64 a0_1] 114 (0, 0)) (by (with_reducible repeat (first | refine blk_drewN ?_ _ | refine blk_drew ?_ | refine blk_alloc ?_ _)); exact BK197.out) hb); have n1_ := Aside0.mk (below_step (by repeat (first | (with_reducible first | exact HB.out | apply below_alloc | apply pw_below_drewN | apply below_drew1 | refine below_set ?_ GE197.out) | exact HB.out)) hb); have n2_ := Aside0.mk (hbox); have n3_ := Aside0.mk ((by rw [hg]; exact (below_size (by repeat (first | (with_reducible first | exact HB.out | apply below_alloc | apply pw_below_drewN | apply below_drew1 | refine below_set ?_ GE197.out) | exact HB.out))) : w.heap.size ≤ gb198)); have n4_ := Aside0.mk ((by rw [hg]; exact (below_size (by repeat (first | (with_reducible first | exact HB.out | apply below_alloc | apply pw_below_drewN | apply below_drew1 | refine below_set ?_ GE197.out) | exact HB.out))) : w.heap.size ≤ gb198)); have n5_ := Aside0.mk ((by rw [hg]; exact Nat.ne_of_lt (blk_lt (g := gb197) (o := .cells #[.int .i64 a0_0, .int .i64 a0_1] 114 (0, 0)) (by (with_reducible repeat (first | refine blk_drewN ?_ _ | refine blk_drew ?_ | refine blk_alloc ?_ _)); exact BK197.out)) : gb197 ≠ gb198)); have n6_ := Aside0.mk ((by rw [hg]; exact Nat.ne_of_gt (blk_lt (g := gb197) (o := .cells #[.int .i64 a0_0, .int .i64 a0_1] 114 (0, 0)) (by (with_reducible repeat (first | refine blk_drewN ?_ _ | refine blk_drew ?_ | refine blk_alloc ?_ _)); exact BK197.out)) : gb198 ≠ gb197)); clear BK197; clear HB; have BK197 := n0_; have HB := n1_; have BK198 := n2_; have GW198 := n3_; have GE198 := n4_; have NB197_198 := n5_; have NB198_197 := n6_; clear n0_ n1_ n2_ n3_ n4_ n5_ n6_; clear hb hbox hg; have hnb17 := NB197_198.out; have hnc17 := NB198_197.out; have hcz18_0 : w16.cell? ⟨gb197, 0, none⟩ = some (.int .i64 a0_0) := (blk_cell BK197.out 0).trans rfl; have hcz18_1 : w16.cell? ⟨gb197, 1, none⟩ = some (.int .i64 a0_1) := (blk_cell BK197.out 1).trans rfl; have hfz18_0 := blk_frozen BK197.out 0; have hfz18_1 := blk_frozen BK197.out 1; have hcz19_0 : w16.cell? ⟨gb198, 0, none⟩ = some (.int .i64 a1_0) := (blk_cell BK198.out 0).trans rfl; have hcz19_1 : w16.cell? ⟨gb198, 1, none⟩ = some (.int .i64 a1_1) := (blk_cell BK198.out 1).trans rfl; have hfz19_0 := blk_frozen BK198.out 0; have hfz19_1 := blk_frozen BK198.out 1))
    go_ret
    exact ⟨by first | rfl | (simp [errW_none, errW_some] <;> rfl) | (simp [*, errW_none, errW_some] <;> rfl), by repeat (first | (with_reducible first | exact HB.out | apply below_alloc | apply pw_below_drewN | apply below_drew1 | refine below_set ?_ GE197.out | refine below_set ?_ GE198.out) | exact HB.out)⟩

end Go.Proofs.Ytcmkkoggdcjceaa.PFnExactEvalAig
