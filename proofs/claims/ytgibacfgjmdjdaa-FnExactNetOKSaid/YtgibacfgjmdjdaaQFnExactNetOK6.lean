/- FnExactNetOK: for every input the law returns true. The texts that this program's session printed and proved for it, those that the proof uses, laid together. Conditions: the form's own reach alone. -/
import Derived.Test.YtgibacfgjmdjdaaQFnExactNetOK5
import Derived.Deep.Slices
import Derived.ChangeArms
import Derived.SizedLaws
section
namespace Go.Proofs.Ytgibacfgjmdjdaa.PFnExactNetOK
open Go.RowKit Go.Proofs.YtgibacfgjmdjdaaW.PrintWords Go.Proofs.YtgibacfgjmdjdaaW.PrintLast Go.Proofs.YtgibacfgjmdjdaaW.PrintMore
attribute [local go_sem] max2_int min2_int max_two min_two max_three min_three max_four min_four   -- for this text's walks alone
set_option linter.unusedVariables false
set_option linter.unusedSimpArgs false
def impl_NetOK.f (k : Nat) (l0_0 : List ByteArray) (l0_1 : List (S92)) (l0_2 : List Int) (l0_3 : List Int) (l0_4 : List (S95)) (l0_5 : List (S97)) : Option (Bool) := (impl_isNet.f k l0_0 l0_1 l0_2 l0_3 l0_4 l0_5).bind fun t231 => (some t231)
set_option maxHeartbeats 8000000 in
set_option maxRecDepth 100000 in
theorem impl_NetOK.calls (k : Nat) (A0_0 : Option Addr) (c0_0 : Nat) (l0_0 : List ByteArray) (A0_1 : Option Addr) (c0_1 : Nat) (l0_1 : List (S92)) (A0_2 : Option Addr) (c0_2 : Nat) (l0_2 : List Int) (A0_3 : Option Addr) (c0_3 : Nat) (l0_3 : List Int) (A0_4 : Option Addr) (c0_4 : Nat) (l0_4 : List (S95)) (A0_5 : Option Addr) (c0_5 : Nat) (l0_5 : List (S97)) (r : Bool) (w : World) (hr0_0 : Kd.C Kd.string w A0_0 l0_0.length l0_0) (hc0_0 : l0_0.length ≤ c0_0) (hr0_1 : Kd.C k92 w A0_1 l0_1.length l0_1) (hc0_1 : l0_1.length ≤ c0_1) (hr0_2 : Kd.C (Kd.int .i64) w A0_2 l0_2.length l0_2) (hc0_2 : l0_2.length ≤ c0_2) (hr0_3 : Kd.C (Kd.int .i64) w A0_3 l0_3.length l0_3) (hc0_3 : l0_3.length ≤ c0_3) (hr0_4 : Kd.C k95 w A0_4 l0_4.length l0_4) (hc0_4 : l0_4.length ≤ c0_4) (hr0_5 : Kd.C k97 w A0_5 l0_5.length l0_5) (hc0_5 : l0_5.length ≤ c0_5) (h : impl_NetOK.f k l0_0 l0_1 l0_2 l0_3 l0_4 l0_5 = some r) :
  Calls Try.prog 24 #[.agg #[.slice A0_0 l0_0.length c0_0, .slice A0_1 l0_1.length c0_1, .slice A0_2 l0_2.length c0_2, .slice A0_3 l0_3.length c0_3, .slice A0_4 l0_4.length c0_4, .slice A0_5 l0_5.length c0_5]] w fun e w' => e = .returned (.bool r) ∧ Below w.heap.size w w' := by
 have hu38 := Try.underlying38
 have HR0_0 := Aside0.mk hr0_0
 have HC0_0 := Aside0.mk hc0_0
 clear hr0_0 hc0_0
 have HR0_1 := Aside0.mk hr0_1
 have HC0_1 := Aside0.mk hc0_1
 clear hr0_1 hc0_1
 have HR0_2 := Aside0.mk hr0_2
 have HC0_2 := Aside0.mk hc0_2
 clear hr0_2 hc0_2
 have HR0_3 := Aside0.mk hr0_3
 have HC0_3 := Aside0.mk hc0_3
 clear hr0_3 hc0_3
 have HR0_4 := Aside0.mk hr0_4
 have HC0_4 := Aside0.mk hc0_4
 clear hr0_4 hc0_4
 have HR0_5 := Aside0.mk hr0_5
 have HC0_5 := Aside0.mk hc0_5
 clear hr0_5 hc0_5
 have HB := Aside0.mk (Below.refl w.heap.size w)
 have H : ((impl_isNet.f k l0_0 l0_1 l0_2 l0_3 l0_4 l0_5).bind fun t231 => (some t231)) = some r := h
 clear h
 replace H := Option.bind_eq_some_iff.mp H
 obtain ⟨t231, A20, H⟩ := H
 replace H : (some t231) = some r := H
 have A2 := Aside0.mk A20
 clear A20
 obtain rfl := Option.some.inj H
 go_enter Try.func24, Try.ntmps24
 go_wp2_with (first | ((with_reducible refine gate_dst (N := 1) rfl ?_); refine box_event ?hg (N := 1) ?hd (cs := #[.slice A0_0 l0_0.length c0_0, .slice A0_1 l0_1.length c0_1, .slice A0_2 l0_2.length c0_2, .slice A0_3 l0_3.length c0_3, .slice A0_4 l0_4.length c0_4, .slice A0_5 l0_5.length c0_5]) (t := 38) ?hr ?_; (case hd => rfl); (case hg => rfl); (case hr => first | (go_simp; done) | (go_simp; rfl)); intro gb230 hg w3 hbox hb; have n0_ := Aside0.mk (below_step (by repeat (first | (with_reducible first | exact HB.out | apply below_alloc | apply pw_below_drewN | apply below_drew1) | exact HB.out)) hb); have n1_ := Aside0.mk (hbox); have n2_ := Aside0.mk ((by rw [hg]; exact (below_size (by repeat (first | (with_reducible first | exact HB.out | apply below_alloc | apply pw_below_drewN | apply below_drew1) | exact HB.out))) : w.heap.size ≤ gb230)); have n3_ := Aside0.mk ((by rw [hg]; exact (below_size (by repeat (first | (with_reducible first | exact HB.out | apply below_alloc | apply pw_below_drewN | apply below_drew1) | exact HB.out))) : w.heap.size ≤ gb230)); clear HB; have HB := n0_; have BK230 := n1_; have GW230 := n2_; have GE230 := n3_; clear n0_ n1_ n2_ n3_; clear hb hbox hg; have hcz4_0 : w3.cell? ⟨gb230, 0, none⟩ = some (.slice A0_0 l0_0.length c0_0) := (blk_cell BK230.out 0).trans rfl; have hcz4_1 : w3.cell? ⟨gb230, 1, none⟩ = some (.slice A0_1 l0_1.length c0_1) := (blk_cell BK230.out 1).trans rfl; have hcz4_2 : w3.cell? ⟨gb230, 2, none⟩ = some (.slice A0_2 l0_2.length c0_2) := (blk_cell BK230.out 2).trans rfl; have hcz4_3 : w3.cell? ⟨gb230, 3, none⟩ = some (.slice A0_3 l0_3.length c0_3) := (blk_cell BK230.out 3).trans rfl; have hcz4_4 : w3.cell? ⟨gb230, 4, none⟩ = some (.slice A0_4 l0_4.length c0_4) := (blk_cell BK230.out 4).trans rfl; have hcz4_5 : w3.cell? ⟨gb230, 5, none⟩ = some (.slice A0_5 l0_5.length c0_5) := (blk_cell BK230.out 5).trans rfl; have hfz4_0 := blk_frozen BK230.out 0; have hfz4_1 := blk_frozen BK230.out 1; have hfz4_2 := blk_frozen BK230.out 2; have hfz4_3 := blk_frozen BK230.out 3; have hfz4_4 := blk_frozen BK230.out 4; have hfz4_5 := blk_frozen BK230.out 5) | ((with_reducible refine gate_callee (f := 62) rfl ?_); refine goesL_ (some 4) rfl rfl Try.func62 (by kernel_rfl) rfl #[.agg #[.slice A0_0 l0_0.length c0_0, .slice A0_1 l0_1.length c0_1, .slice A0_2 l0_2.length c0_2, .slice A0_3 l0_3.length c0_3, .slice A0_4 l0_4.length c0_4, .slice A0_5 l0_5.length c0_5]] rfl (by (try simp only [List.map_toArray, List.map_cons, List.map_nil]); first | done | rfl | (simp only [List.length_drop, List.length_take]; rfl)) ?_; (with_reducible refine (impl_isNet.calls k _ _ l0_0 _ _ l0_1 _ _ l0_2 _ _ l0_3 _ _ l0_4 _ _ l0_5 t231 _ ?side1 ?side2 ?side3 ?side4 ?side5 ?side6 ?side7 ?side8 ?side9 ?side10 ?side11 ?side12 A2.out).mono ?_); (case side1 => repeat (first | exact (Kd.C_below HR0_0.out HB.out) | (with_reducible refine Kd.C_alloc ?_ _) | (with_reducible refine Kd.C_drewN ?_ _) | (with_reducible refine Kd.C_drew ?_))); (case side2 => exact HC0_0.out); (case side3 => repeat (first | exact (Kd.C_below HR0_1.out HB.out) | (with_reducible refine Kd.C_alloc ?_ _) | (with_reducible refine Kd.C_drewN ?_ _) | (with_reducible refine Kd.C_drew ?_))); (case side4 => exact HC0_1.out); (case side5 => repeat (first | exact (Kd.C_below HR0_2.out HB.out) | (with_reducible refine Kd.C_alloc ?_ _) | (with_reducible refine Kd.C_drewN ?_ _) | (with_reducible refine Kd.C_drew ?_))); (case side6 => exact HC0_2.out); (case side7 => repeat (first | exact (Kd.C_below HR0_3.out HB.out) | (with_reducible refine Kd.C_alloc ?_ _) | (with_reducible refine Kd.C_drewN ?_ _) | (with_reducible refine Kd.C_drew ?_))); (case side8 => exact HC0_3.out); (case side9 => repeat (first | exact (Kd.C_below HR0_4.out HB.out) | (with_reducible refine Kd.C_alloc ?_ _) | (with_reducible refine Kd.C_drewN ?_ _) | (with_reducible refine Kd.C_drew ?_))); (case side10 => exact HC0_4.out); (case side11 => repeat (first | exact (Kd.C_below HR0_5.out HB.out) | (with_reducible refine Kd.C_alloc ?_ _) | (with_reducible refine Kd.C_drewN ?_ _) | (with_reducible refine Kd.C_drew ?_))); (case side12 => exact HC0_5.out); rintro e w5 ⟨rfl, hb⟩; refine ⟨_, rfl, ?_⟩; have n0_ := Aside0.mk (blk_below (g := gb230) (o := .cells #[.slice A0_0 l0_0.length c0_0, .slice A0_1 l0_1.length c0_1, .slice A0_2 l0_2.length c0_2, .slice A0_3 l0_3.length c0_3, .slice A0_4 l0_4.length c0_4, .slice A0_5 l0_5.length c0_5] 38 (0, 0)) (by (with_reducible repeat (first | refine blk_drewN ?_ _ | refine blk_drew ?_ | refine blk_alloc ?_ _)); exact BK230.out) hb); have n1_ := Aside0.mk (below_step (by repeat (first | (with_reducible first | exact HB.out | apply below_alloc | apply pw_below_drewN | apply below_drew1 | refine below_set ?_ GE230.out) | exact HB.out)) hb); clear BK230; clear HB; have BK230 := n0_; have HB := n1_; clear n0_ n1_; (try clear hb); (try clear hb2); (try clear hk); (try clear hi)))
 go_ret
 exact ⟨by first | rfl | (simp [errW_none, errW_some] <;> rfl) | (simp [*, errW_none, errW_some] <;> rfl), by repeat (first | (with_reducible first | exact HB.out | apply below_alloc | apply pw_below_drewN | apply below_drew1 | refine below_set ?_ GE230.out) | exact HB.out)⟩
def laws_FnExactNetOK.f (k : Nat) (l0_0 : List ByteArray) (l0_1 : List (S107)) (l0_2 : List Int) (l0_3 : List Int) (l0_4 : List (S109)) (l0_5 : List (S111)) : Option (Bool) := (laws_szNet.f k l0_0 l0_1 l0_2 l0_3 l0_4 l0_5 1048576).bind fun t233 => (if t233 < 0 then (some true) else ((laws_toNet.f k l0_0 l0_1 l0_2 l0_3 l0_4 l0_5).bind fun bt234 => ((spec_NetOK.f k bt234.1 bt234.2.1 bt234.2.2.1 bt234.2.2.2.1 bt234.2.2.2.2.1 bt234.2.2.2.2.2).bind fun t252 => ((laws_toNet.f k l0_0 l0_1 l0_2 l0_3 l0_4 l0_5).bind fun bt253 => ((impl_NetOK.f k bt253.1 bt253.2.1 bt253.2.2.1 bt253.2.2.2.1 bt253.2.2.2.2.1 bt253.2.2.2.2.2).bind fun t272 => (if (t272 != t252) = true then (some false) else ((laws_toNet.f k l0_0 l0_1 l0_2 l0_3 l0_4 l0_5).bind fun bt273 => ((laws_eqNet.f k bt253.1 bt253.2.1 bt253.2.2.1 bt253.2.2.2.1 bt253.2.2.2.2.1 bt253.2.2.2.2.2 bt273.1 bt273.2.1 bt273.2.2.1 bt273.2.2.2.1 bt273.2.2.2.2.1 bt273.2.2.2.2.2).bind fun t291 => (if t291 = true then (some true) else (some false))))))))))
set_option maxHeartbeats 8000000 in
set_option maxRecDepth 100000 in
theorem laws_FnExactNetOK.calls (k : Nat) (A0_0 : Option Addr) (c0_0 : Nat) (l0_0 : List ByteArray) (A0_1 : Option Addr) (c0_1 : Nat) (l0_1 : List (S107)) (A0_2 : Option Addr) (c0_2 : Nat) (l0_2 : List Int) (A0_3 : Option Addr) (c0_3 : Nat) (l0_3 : List Int) (A0_4 : Option Addr) (c0_4 : Nat) (l0_4 : List (S109)) (A0_5 : Option Addr) (c0_5 : Nat) (l0_5 : List (S111)) (r : Bool) (w : World) (hr0_0 : Kd.C Kd.string w A0_0 l0_0.length l0_0) (hc0_0 : l0_0.length ≤ c0_0) (hr0_1 : Kd.C k107 w A0_1 l0_1.length l0_1) (hc0_1 : l0_1.length ≤ c0_1) (hr0_2 : Kd.C (Kd.int .i64) w A0_2 l0_2.length l0_2) (hc0_2 : l0_2.length ≤ c0_2) (hr0_3 : Kd.C (Kd.int .i64) w A0_3 l0_3.length l0_3) (hc0_3 : l0_3.length ≤ c0_3) (hr0_4 : Kd.C k109 w A0_4 l0_4.length l0_4) (hc0_4 : l0_4.length ≤ c0_4) (hr0_5 : Kd.C k111 w A0_5 l0_5.length l0_5) (hc0_5 : l0_5.length ≤ c0_5) (h : laws_FnExactNetOK.f k l0_0 l0_1 l0_2 l0_3 l0_4 l0_5 = some r) :
  Calls Try.prog 4 #[.agg #[.slice A0_0 l0_0.length c0_0, .slice A0_1 l0_1.length c0_1, .slice A0_2 l0_2.length c0_2, .slice A0_3 l0_3.length c0_3, .slice A0_4 l0_4.length c0_4, .slice A0_5 l0_5.length c0_5]] w fun e w' => e = .returned (.bool r) ∧ Below w.heap.size w w' := by
 have hu28 := Try.underlying28
 have hu38 := Try.underlying38
 have HR0_0 := Aside0.mk hr0_0
 have HC0_0 := Aside0.mk hc0_0
 clear hr0_0 hc0_0
 have HR0_1 := Aside0.mk hr0_1
 have HC0_1 := Aside0.mk hc0_1
 clear hr0_1 hc0_1
 have HR0_2 := Aside0.mk hr0_2
 have HC0_2 := Aside0.mk hc0_2
 clear hr0_2 hc0_2
 have HR0_3 := Aside0.mk hr0_3
 have HC0_3 := Aside0.mk hc0_3
 clear hr0_3 hc0_3
 have HR0_4 := Aside0.mk hr0_4
 have HC0_4 := Aside0.mk hc0_4
 clear hr0_4 hc0_4
 have HR0_5 := Aside0.mk hr0_5
 have HC0_5 := Aside0.mk hc0_5
 clear hr0_5 hc0_5
 have HB := Aside0.mk (Below.refl w.heap.size w)
 have H : ((laws_szNet.f k l0_0 l0_1 l0_2 l0_3 l0_4 l0_5 1048576).bind fun t233 => (if t233 < 0 then (some true) else ((laws_toNet.f k l0_0 l0_1 l0_2 l0_3 l0_4 l0_5).bind fun bt234 => ((spec_NetOK.f k bt234.1 bt234.2.1 bt234.2.2.1 bt234.2.2.2.1 bt234.2.2.2.2.1 bt234.2.2.2.2.2).bind fun t252 => ((laws_toNet.f k l0_0 l0_1 l0_2 l0_3 l0_4 l0_5).bind fun bt253 => ((impl_NetOK.f k bt253.1 bt253.2.1 bt253.2.2.1 bt253.2.2.2.1 bt253.2.2.2.2.1 bt253.2.2.2.2.2).bind fun t272 => (if (t272 != t252) = true then (some false) else ((laws_toNet.f k l0_0 l0_1 l0_2 l0_3 l0_4 l0_5).bind fun bt273 => ((laws_eqNet.f k bt253.1 bt253.2.1 bt253.2.2.1 bt253.2.2.2.1 bt253.2.2.2.2.1 bt253.2.2.2.2.2 bt273.1 bt273.2.1 bt273.2.2.1 bt273.2.2.2.1 bt273.2.2.2.2.1 bt273.2.2.2.2.2).bind fun t291 => (if t291 = true then (some true) else (some false))))))))))) = some r := h
 clear h
 replace H := Option.bind_eq_some_iff.mp H
 obtain ⟨t233, A20, H⟩ := H
 replace H : (if t233 < 0 then (some true) else ((laws_toNet.f k l0_0 l0_1 l0_2 l0_3 l0_4 l0_5).bind fun bt234 => ((spec_NetOK.f k bt234.1 bt234.2.1 bt234.2.2.1 bt234.2.2.2.1 bt234.2.2.2.2.1 bt234.2.2.2.2.2).bind fun t252 => ((laws_toNet.f k l0_0 l0_1 l0_2 l0_3 l0_4 l0_5).bind fun bt253 => ((impl_NetOK.f k bt253.1 bt253.2.1 bt253.2.2.1 bt253.2.2.2.1 bt253.2.2.2.2.1 bt253.2.2.2.2.2).bind fun t272 => (if (t272 != t252) = true then (some false) else ((laws_toNet.f k l0_0 l0_1 l0_2 l0_3 l0_4 l0_5).bind fun bt273 => ((laws_eqNet.f k bt253.1 bt253.2.1 bt253.2.2.1 bt253.2.2.2.1 bt253.2.2.2.2.1 bt253.2.2.2.2.2 bt273.1 bt273.2.1 bt273.2.2.1 bt273.2.2.2.1 bt273.2.2.2.2.1 bt273.2.2.2.2.2).bind fun t291 => (if t291 = true then (some true) else (some false)))))))))) = some r := H
 have A2 := Aside0.mk A20
 clear A20
 by_cases c3 : t233 < 0
 ·rw [if_pos c3] at H
  have c3b0 : decide (t233 < 0) = true := decide_eq_true c3
  clear c3
  obtain rfl := Option.some.inj H
  go_enter Try.func4, Try.ntmps4
  go_wp2_with (first | ((with_reducible refine gate_dst (N := 1) rfl ?_); refine box_event ?hg (N := 1) ?hd (cs := #[.slice A0_0 l0_0.length c0_0, .slice A0_1 l0_1.length c0_1, .slice A0_2 l0_2.length c0_2, .slice A0_3 l0_3.length c0_3, .slice A0_4 l0_4.length c0_4, .slice A0_5 l0_5.length c0_5]) (t := 28) ?hr ?_; (case hd => rfl); (case hg => rfl); (case hr => first | (go_simp; done) | (go_simp; rfl)); intro gb232 hg w4 hbox hb; have n0_ := Aside0.mk (below_step (by repeat (first | (with_reducible first | exact HB.out | apply below_alloc | apply pw_below_drewN | apply below_drew1) | exact HB.out)) hb); have n1_ := Aside0.mk (hbox); have n2_ := Aside0.mk ((by rw [hg]; exact (below_size (by repeat (first | (with_reducible first | exact HB.out | apply below_alloc | apply pw_below_drewN | apply below_drew1) | exact HB.out))) : w.heap.size ≤ gb232)); have n3_ := Aside0.mk ((by rw [hg]; exact (below_size (by repeat (first | (with_reducible first | exact HB.out | apply below_alloc | apply pw_below_drewN | apply below_drew1) | exact HB.out))) : w.heap.size ≤ gb232)); clear HB; have HB := n0_; have BK232 := n1_; have GW232 := n2_; have GE232 := n3_; clear n0_ n1_ n2_ n3_; clear hb hbox hg; have hcz5_0 : w4.cell? ⟨gb232, 0, none⟩ = some (.slice A0_0 l0_0.length c0_0) := (blk_cell BK232.out 0).trans rfl; have hcz5_1 : w4.cell? ⟨gb232, 1, none⟩ = some (.slice A0_1 l0_1.length c0_1) := (blk_cell BK232.out 1).trans rfl; have hcz5_2 : w4.cell? ⟨gb232, 2, none⟩ = some (.slice A0_2 l0_2.length c0_2) := (blk_cell BK232.out 2).trans rfl; have hcz5_3 : w4.cell? ⟨gb232, 3, none⟩ = some (.slice A0_3 l0_3.length c0_3) := (blk_cell BK232.out 3).trans rfl; have hcz5_4 : w4.cell? ⟨gb232, 4, none⟩ = some (.slice A0_4 l0_4.length c0_4) := (blk_cell BK232.out 4).trans rfl; have hcz5_5 : w4.cell? ⟨gb232, 5, none⟩ = some (.slice A0_5 l0_5.length c0_5) := (blk_cell BK232.out 5).trans rfl; have hfz5_0 := blk_frozen BK232.out 0; have hfz5_1 := blk_frozen BK232.out 1; have hfz5_2 := blk_frozen BK232.out 2; have hfz5_3 := blk_frozen BK232.out 3; have hfz5_4 := blk_frozen BK232.out 4; have hfz5_5 := blk_frozen BK232.out 5) | ((with_reducible refine gate_callee (f := 8) rfl ?_); refine goesL_ (some 9) rfl rfl Try.func8 (by kernel_rfl) rfl #[.agg #[.slice A0_0 l0_0.length c0_0, .slice A0_1 l0_1.length c0_1, .slice A0_2 l0_2.length c0_2, .slice A0_3 l0_3.length c0_3, .slice A0_4 l0_4.length c0_4, .slice A0_5 l0_5.length c0_5], .int .i64 1048576] rfl (by (try simp only [List.map_toArray, List.map_cons, List.map_nil]); first | done | rfl | (simp only [List.length_drop, List.length_take]; rfl)) ?_; (with_reducible refine (laws_szNet.calls k _ _ l0_0 _ _ l0_1 _ _ l0_2 _ _ l0_3 _ _ l0_4 _ _ l0_5 1048576 t233 _ ?side1 ?side2 ?side3 ?side4 ?side5 ?side6 ?side7 ?side8 ?side9 ?side10 ?side11 ?side12 A2.out).mono ?_); (case side1 => repeat (first | exact (Kd.C_below HR0_0.out HB.out) | (with_reducible refine Kd.C_alloc ?_ _) | (with_reducible refine Kd.C_drewN ?_ _) | (with_reducible refine Kd.C_drew ?_))); (case side2 => exact HC0_0.out); (case side3 => repeat (first | exact (Kd.C_below HR0_1.out HB.out) | (with_reducible refine Kd.C_alloc ?_ _) | (with_reducible refine Kd.C_drewN ?_ _) | (with_reducible refine Kd.C_drew ?_))); (case side4 => exact HC0_1.out); (case side5 => repeat (first | exact (Kd.C_below HR0_2.out HB.out) | (with_reducible refine Kd.C_alloc ?_ _) | (with_reducible refine Kd.C_drewN ?_ _) | (with_reducible refine Kd.C_drew ?_))); (case side6 => exact HC0_2.out); (case side7 => repeat (first | exact (Kd.C_below HR0_3.out HB.out) | (with_reducible refine Kd.C_alloc ?_ _) | (with_reducible refine Kd.C_drewN ?_ _) | (with_reducible refine Kd.C_drew ?_))); (case side8 => exact HC0_3.out); (case side9 => repeat (first | exact (Kd.C_below HR0_4.out HB.out) | (with_reducible refine Kd.C_alloc ?_ _) | (with_reducible refine Kd.C_drewN ?_ _) | (with_reducible refine Kd.C_drew ?_))); (case side10 => exact HC0_4.out); (case side11 => repeat (first | exact (Kd.C_below HR0_5.out HB.out) | (with_reducible refine Kd.C_alloc ?_ _) | (with_reducible refine Kd.C_drewN ?_ _) | (with_reducible refine Kd.C_drew ?_))); (case side12 => exact HC0_5.out); rintro e w6 ⟨rfl, hb⟩; refine ⟨_, rfl, ?_⟩; have n0_ := Aside0.mk (blk_below (g := gb232) (o := .cells #[.slice A0_0 l0_0.length c0_0, .slice A0_1 l0_1.length c0_1, .slice A0_2 l0_2.length c0_2, .slice A0_3 l0_3.length c0_3, .slice A0_4 l0_4.length c0_4, .slice A0_5 l0_5.length c0_5] 28 (0, 0)) (by (with_reducible repeat (first | refine blk_drewN ?_ _ | refine blk_drew ?_ | refine blk_alloc ?_ _)); exact BK232.out) hb); have n1_ := Aside0.mk (below_step (by repeat (first | (with_reducible first | exact HB.out | apply below_alloc | apply pw_below_drewN | apply below_drew1 | refine below_set ?_ GE232.out) | exact HB.out)) hb); clear BK232; clear HB; have BK232 := n0_; have HB := n1_; clear n0_ n1_; (try clear hb); (try clear hb2); (try clear hk); (try clear hi)))
  go_ret
  exact ⟨by first | rfl | (simp [errW_none, errW_some] <;> rfl) | (simp [*, errW_none, errW_some] <;> rfl), by repeat (first | (with_reducible first | exact HB.out | apply below_alloc | apply pw_below_drewN | apply below_drew1 | refine below_set ?_ GE232.out) | exact HB.out)⟩
 ·rw [if_neg c3] at H
  have c3b0 : decide (t233 < 0) = false := decide_eq_false c3
  clear c3
  replace H := Option.bind_eq_some_iff.mp H
  obtain ⟨⟨t234, t237, t240, t243, t246, t249⟩, A70, H⟩ := H
  replace H : ((spec_NetOK.f k t234 t237 t240 t243 t246 t249).bind fun t252 => ((laws_toNet.f k l0_0 l0_1 l0_2 l0_3 l0_4 l0_5).bind fun bt253 => ((impl_NetOK.f k bt253.1 bt253.2.1 bt253.2.2.1 bt253.2.2.2.1 bt253.2.2.2.2.1 bt253.2.2.2.2.2).bind fun t272 => (if (t272 != t252) = true then (some false) else ((laws_toNet.f k l0_0 l0_1 l0_2 l0_3 l0_4 l0_5).bind fun bt273 => ((laws_eqNet.f k bt253.1 bt253.2.1 bt253.2.2.1 bt253.2.2.2.1 bt253.2.2.2.2.1 bt253.2.2.2.2.2 bt273.1 bt273.2.1 bt273.2.2.1 bt273.2.2.2.1 bt273.2.2.2.2.1 bt273.2.2.2.2.2).bind fun t291 => (if t291 = true then (some true) else (some false)))))))) = some r := H
  have A7 := Aside0.mk A70
  clear A70
  replace H := Option.bind_eq_some_iff.mp H
  obtain ⟨t252, A80, H⟩ := H
  replace H : ((laws_toNet.f k l0_0 l0_1 l0_2 l0_3 l0_4 l0_5).bind fun bt253 => ((impl_NetOK.f k bt253.1 bt253.2.1 bt253.2.2.1 bt253.2.2.2.1 bt253.2.2.2.2.1 bt253.2.2.2.2.2).bind fun t272 => (if (t272 != t252) = true then (some false) else ((laws_toNet.f k l0_0 l0_1 l0_2 l0_3 l0_4 l0_5).bind fun bt273 => ((laws_eqNet.f k bt253.1 bt253.2.1 bt253.2.2.1 bt253.2.2.2.1 bt253.2.2.2.2.1 bt253.2.2.2.2.2 bt273.1 bt273.2.1 bt273.2.2.1 bt273.2.2.2.1 bt273.2.2.2.2.1 bt273.2.2.2.2.2).bind fun t291 => (if t291 = true then (some true) else (some false))))))) = some r := H
  have A8 := Aside0.mk A80
  clear A80
  replace H := Option.bind_eq_some_iff.mp H
  obtain ⟨⟨t253, t256, t259, t262, t265, t268⟩, A90, H⟩ := H
  replace H : ((impl_NetOK.f k t253 t256 t259 t262 t265 t268).bind fun t272 => (if (t272 != t252) = true then (some false) else ((laws_toNet.f k l0_0 l0_1 l0_2 l0_3 l0_4 l0_5).bind fun bt273 => ((laws_eqNet.f k t253 t256 t259 t262 t265 t268 bt273.1 bt273.2.1 bt273.2.2.1 bt273.2.2.2.1 bt273.2.2.2.2.1 bt273.2.2.2.2.2).bind fun t291 => (if t291 = true then (some true) else (some false)))))) = some r := H
  have A9 := Aside0.mk A90
  clear A90
  replace H := Option.bind_eq_some_iff.mp H
  obtain ⟨t272, A100, H⟩ := H
  replace H : (if (t272 != t252) = true then (some false) else ((laws_toNet.f k l0_0 l0_1 l0_2 l0_3 l0_4 l0_5).bind fun bt273 => ((laws_eqNet.f k t253 t256 t259 t262 t265 t268 bt273.1 bt273.2.1 bt273.2.2.1 bt273.2.2.2.1 bt273.2.2.2.2.1 bt273.2.2.2.2.2).bind fun t291 => (if t291 = true then (some true) else (some false))))) = some r := H
  have A10 := Aside0.mk A100
  clear A100
  by_cases c11 : (t272 != t252) = true
  ·rw [if_pos c11] at H
   have c11b0 : (t272 != t252) = true := c11
   (try (have c11b1 : decide (t272 = t252) = false := by simpa using c11))
   (try (have c11b2 : (t272 == t252) = false := by simpa using c11))
   (try (have c11b3 : ¬ (t272 = t252) := by simpa using c11))
   clear c11
   obtain rfl := Option.some.inj H
   go_enter Try.func4, Try.ntmps4
   go_wp2_with (first | ((with_reducible refine gate_dst (N := 1) rfl ?_); refine box_event ?hg (N := 1) ?hd (cs := #[.slice A0_0 l0_0.length c0_0, .slice A0_1 l0_1.length c0_1, .slice A0_2 l0_2.length c0_2, .slice A0_3 l0_3.length c0_3, .slice A0_4 l0_4.length c0_4, .slice A0_5 l0_5.length c0_5]) (t := 28) ?hr ?_; (case hd => rfl); (case hg => rfl); (case hr => first | (go_simp; done) | (go_simp; rfl)); intro gb232 hg w12 hbox hb; have n0_ := Aside0.mk (below_step (by repeat (first | (with_reducible first | exact HB.out | apply below_alloc | apply pw_below_drewN | apply below_drew1) | exact HB.out)) hb); have n1_ := Aside0.mk (hbox); have n2_ := Aside0.mk ((by rw [hg]; exact (below_size (by repeat (first | (with_reducible first | exact HB.out | apply below_alloc | apply pw_below_drewN | apply below_drew1) | exact HB.out))) : w.heap.size ≤ gb232)); have n3_ := Aside0.mk ((by rw [hg]; exact (below_size (by repeat (first | (with_reducible first | exact HB.out | apply below_alloc | apply pw_below_drewN | apply below_drew1) | exact HB.out))) : w.heap.size ≤ gb232)); clear HB; have HB := n0_; have BK232 := n1_; have GW232 := n2_; have GE232 := n3_; clear n0_ n1_ n2_ n3_; clear hb hbox hg; have hcz13_0 : w12.cell? ⟨gb232, 0, none⟩ = some (.slice A0_0 l0_0.length c0_0) := (blk_cell BK232.out 0).trans rfl; have hcz13_1 : w12.cell? ⟨gb232, 1, none⟩ = some (.slice A0_1 l0_1.length c0_1) := (blk_cell BK232.out 1).trans rfl; have hcz13_2 : w12.cell? ⟨gb232, 2, none⟩ = some (.slice A0_2 l0_2.length c0_2) := (blk_cell BK232.out 2).trans rfl; have hcz13_3 : w12.cell? ⟨gb232, 3, none⟩ = some (.slice A0_3 l0_3.length c0_3) := (blk_cell BK232.out 3).trans rfl; have hcz13_4 : w12.cell? ⟨gb232, 4, none⟩ = some (.slice A0_4 l0_4.length c0_4) := (blk_cell BK232.out 4).trans rfl; have hcz13_5 : w12.cell? ⟨gb232, 5, none⟩ = some (.slice A0_5 l0_5.length c0_5) := (blk_cell BK232.out 5).trans rfl; have hfz13_0 := blk_frozen BK232.out 0; have hfz13_1 := blk_frozen BK232.out 1; have hfz13_2 := blk_frozen BK232.out 2; have hfz13_3 := blk_frozen BK232.out 3; have hfz13_4 := blk_frozen BK232.out 4; have hfz13_5 := blk_frozen BK232.out 5) | ((with_reducible refine gate_callee (f := 8) rfl ?_); refine goesL_ (some 9) rfl rfl Try.func8 (by kernel_rfl) rfl #[.agg #[.slice A0_0 l0_0.length c0_0, .slice A0_1 l0_1.length c0_1, .slice A0_2 l0_2.length c0_2, .slice A0_3 l0_3.length c0_3, .slice A0_4 l0_4.length c0_4, .slice A0_5 l0_5.length c0_5], .int .i64 1048576] rfl (by (try simp only [List.map_toArray, List.map_cons, List.map_nil]); first | done | rfl | (simp only [List.length_drop, List.length_take]; rfl)) ?_; (with_reducible refine (laws_szNet.calls k _ _ l0_0 _ _ l0_1 _ _ l0_2 _ _ l0_3 _ _ l0_4 _ _ l0_5 1048576 t233 _ ?side1 ?side2 ?side3 ?side4 ?side5 ?side6 ?side7 ?side8 ?side9 ?side10 ?side11 ?side12 A2.out).mono ?_); (case side1 => repeat (first | exact (Kd.C_below HR0_0.out HB.out) | (with_reducible refine Kd.C_alloc ?_ _) | (with_reducible refine Kd.C_drewN ?_ _) | (with_reducible refine Kd.C_drew ?_))); (case side2 => exact HC0_0.out); (case side3 => repeat (first | exact (Kd.C_below HR0_1.out HB.out) | (with_reducible refine Kd.C_alloc ?_ _) | (with_reducible refine Kd.C_drewN ?_ _) | (with_reducible refine Kd.C_drew ?_))); (case side4 => exact HC0_1.out); (case side5 => repeat (first | exact (Kd.C_below HR0_2.out HB.out) | (with_reducible refine Kd.C_alloc ?_ _) | (with_reducible refine Kd.C_drewN ?_ _) | (with_reducible refine Kd.C_drew ?_))); (case side6 => exact HC0_2.out); (case side7 => repeat (first | exact (Kd.C_below HR0_3.out HB.out) | (with_reducible refine Kd.C_alloc ?_ _) | (with_reducible refine Kd.C_drewN ?_ _) | (with_reducible refine Kd.C_drew ?_))); (case side8 => exact HC0_3.out); (case side9 => repeat (first | exact (Kd.C_below HR0_4.out HB.out) | (with_reducible refine Kd.C_alloc ?_ _) | (with_reducible refine Kd.C_drewN ?_ _) | (with_reducible refine Kd.C_drew ?_))); (case side10 => exact HC0_4.out); (case side11 => repeat (first | exact (Kd.C_below HR0_5.out HB.out) | (with_reducible refine Kd.C_alloc ?_ _) | (with_reducible refine Kd.C_drewN ?_ _) | (with_reducible refine Kd.C_drew ?_))); (case side12 => exact HC0_5.out); rintro e w14 ⟨rfl, hb⟩; refine ⟨_, rfl, ?_⟩; have n0_ := Aside0.mk (blk_below (g := gb232) (o := .cells #[.slice A0_0 l0_0.length c0_0, .slice A0_1 l0_1.length c0_1, .slice A0_2 l0_2.length c0_2, .slice A0_3 l0_3.length c0_3, .slice A0_4 l0_4.length c0_4, .slice A0_5 l0_5.length c0_5] 28 (0, 0)) (by (with_reducible repeat (first | refine blk_drewN ?_ _ | refine blk_drew ?_ | refine blk_alloc ?_ _)); exact BK232.out) hb); have n1_ := Aside0.mk (below_step (by repeat (first | (with_reducible first | exact HB.out | apply below_alloc | apply pw_below_drewN | apply below_drew1 | refine below_set ?_ GE232.out) | exact HB.out)) hb); clear BK232; clear HB; have BK232 := n0_; have HB := n1_; clear n0_ n1_; (try clear hb); (try clear hb2); (try clear hk); (try clear hi); have hcz15_0 : w14.cell? ⟨gb232, 0, none⟩ = some (.slice A0_0 l0_0.length c0_0) := (blk_cell BK232.out 0).trans rfl; have hcz15_1 : w14.cell? ⟨gb232, 1, none⟩ = some (.slice A0_1 l0_1.length c0_1) := (blk_cell BK232.out 1).trans rfl; have hcz15_2 : w14.cell? ⟨gb232, 2, none⟩ = some (.slice A0_2 l0_2.length c0_2) := (blk_cell BK232.out 2).trans rfl; have hcz15_3 : w14.cell? ⟨gb232, 3, none⟩ = some (.slice A0_3 l0_3.length c0_3) := (blk_cell BK232.out 3).trans rfl; have hcz15_4 : w14.cell? ⟨gb232, 4, none⟩ = some (.slice A0_4 l0_4.length c0_4) := (blk_cell BK232.out 4).trans rfl; have hcz15_5 : w14.cell? ⟨gb232, 5, none⟩ = some (.slice A0_5 l0_5.length c0_5) := (blk_cell BK232.out 5).trans rfl; have hfz15_0 := blk_frozen BK232.out 0; have hfz15_1 := blk_frozen BK232.out 1; have hfz15_2 := blk_frozen BK232.out 2; have hfz15_3 := blk_frozen BK232.out 3; have hfz15_4 := blk_frozen BK232.out 4; have hfz15_5 := blk_frozen BK232.out 5) | ((with_reducible refine gate_callee (f := 10) rfl ?_); refine goesL_ (some 13) rfl rfl Try.func10 (by kernel_rfl) rfl #[.agg #[.slice A0_0 l0_0.length c0_0, .slice A0_1 l0_1.length c0_1, .slice A0_2 l0_2.length c0_2, .slice A0_3 l0_3.length c0_3, .slice A0_4 l0_4.length c0_4, .slice A0_5 l0_5.length c0_5]] rfl (by (try simp only [List.map_toArray, List.map_cons, List.map_nil]); first | done | rfl | (simp only [List.length_drop, List.length_take]; rfl)) ?_; (with_reducible refine (laws_toNet.calls k _ _ l0_0 _ _ l0_1 _ _ l0_2 _ _ l0_3 _ _ l0_4 _ _ l0_5 t234 t237 t240 t243 t246 t249 _ ?side1 ?side2 ?side3 ?side4 ?side5 ?side6 ?side7 ?side8 ?side9 ?side10 ?side11 ?side12 A7.out).mono ?_); (case side1 => repeat (first | exact (Kd.C_below HR0_0.out HB.out) | (with_reducible refine Kd.C_alloc ?_ _) | (with_reducible refine Kd.C_drewN ?_ _) | (with_reducible refine Kd.C_drew ?_))); (case side2 => exact HC0_0.out); (case side3 => repeat (first | exact (Kd.C_below HR0_1.out HB.out) | (with_reducible refine Kd.C_alloc ?_ _) | (with_reducible refine Kd.C_drewN ?_ _) | (with_reducible refine Kd.C_drew ?_))); (case side4 => exact HC0_1.out); (case side5 => repeat (first | exact (Kd.C_below HR0_2.out HB.out) | (with_reducible refine Kd.C_alloc ?_ _) | (with_reducible refine Kd.C_drewN ?_ _) | (with_reducible refine Kd.C_drew ?_))); (case side6 => exact HC0_2.out); (case side7 => repeat (first | exact (Kd.C_below HR0_3.out HB.out) | (with_reducible refine Kd.C_alloc ?_ _) | (with_reducible refine Kd.C_drewN ?_ _) | (with_reducible refine Kd.C_drew ?_))); (case side8 => exact HC0_3.out); (case side9 => repeat (first | exact (Kd.C_below HR0_4.out HB.out) | (with_reducible refine Kd.C_alloc ?_ _) | (with_reducible refine Kd.C_drewN ?_ _) | (with_reducible refine Kd.C_drew ?_))); (case side10 => exact HC0_4.out); (case side11 => repeat (first | exact (Kd.C_below HR0_5.out HB.out) | (with_reducible refine Kd.C_alloc ?_ _) | (with_reducible refine Kd.C_drewN ?_ _) | (with_reducible refine Kd.C_drew ?_))); (case side12 => exact HC0_5.out); rintro e w16 ⟨v235, v238, v241, v244, v247, v250, rfl, ho0, ho1, ho2, ho3, ho4, ho5, hb⟩; refine ⟨_, rfl, ?_⟩; have n0_ := Aside0.mk (Kd.R_lower ho0 (below_size (by repeat (first | (with_reducible first | exact HB.out | apply below_alloc | apply pw_below_drewN | apply below_drew1 | refine below_set ?_ GE232.out) | exact HB.out)))); have n1_ := Aside0.mk (Kd.R_lower ho1 (below_size (by repeat (first | (with_reducible first | exact HB.out | apply below_alloc | apply pw_below_drewN | apply below_drew1 | refine below_set ?_ GE232.out) | exact HB.out)))); have n2_ := Aside0.mk (Kd.R_lower ho2 (below_size (by repeat (first | (with_reducible first | exact HB.out | apply below_alloc | apply pw_below_drewN | apply below_drew1 | refine below_set ?_ GE232.out) | exact HB.out)))); have n3_ := Aside0.mk (Kd.R_lower ho3 (below_size (by repeat (first | (with_reducible first | exact HB.out | apply below_alloc | apply pw_below_drewN | apply below_drew1 | refine below_set ?_ GE232.out) | exact HB.out)))); have n4_ := Aside0.mk (Kd.R_lower ho4 (below_size (by repeat (first | (with_reducible first | exact HB.out | apply below_alloc | apply pw_below_drewN | apply below_drew1 | refine below_set ?_ GE232.out) | exact HB.out)))); have n5_ := Aside0.mk (Kd.R_lower ho5 (below_size (by repeat (first | (with_reducible first | exact HB.out | apply below_alloc | apply pw_below_drewN | apply below_drew1 | refine below_set ?_ GE232.out) | exact HB.out)))); have n6_ := Aside0.mk (blk_below (g := gb232) (o := .cells #[.slice A0_0 l0_0.length c0_0, .slice A0_1 l0_1.length c0_1, .slice A0_2 l0_2.length c0_2, .slice A0_3 l0_3.length c0_3, .slice A0_4 l0_4.length c0_4, .slice A0_5 l0_5.length c0_5] 28 (0, 0)) (by (with_reducible repeat (first | refine blk_drewN ?_ _ | refine blk_drew ?_ | refine blk_alloc ?_ _)); exact BK232.out) hb); have n7_ := Aside0.mk (below_step (by repeat (first | (with_reducible first | exact HB.out | apply below_alloc | apply pw_below_drewN | apply below_drew1 | refine below_set ?_ GE232.out) | exact HB.out)) hb); clear BK232; clear HB; have HO236 := n0_; have HO239 := n1_; have HO242 := n2_; have HO245 := n3_; have HO248 := n4_; have HO251 := n5_; have BK232 := n6_; have HB := n7_; clear n0_ n1_ n2_ n3_ n4_ n5_ n6_ n7_; (try clear hb); (try clear hb2); (try clear hk); (try clear hi); (try clear ho0); (try clear ho1); (try clear ho2); (try clear ho3); (try clear ho4); (try clear ho5); obtain ⟨Ao17, co17, eo17⟩ := Kd.R_slice HO236.out; subst eo17; obtain ⟨Ao18, co18, eo18⟩ := Kd.R_slice HO239.out; subst eo18; obtain ⟨Ao19, co19, eo19⟩ := Kd.R_slice HO242.out; subst eo19; obtain ⟨Ao20, co20, eo20⟩ := Kd.R_slice HO245.out; subst eo20; obtain ⟨Ao21, co21, eo21⟩ := Kd.R_slice HO248.out; subst eo21; obtain ⟨Ao22, co22, eo22⟩ := Kd.R_slice HO251.out; subst eo22) | ((with_reducible refine gate_callee (f := 23) rfl ?_); refine goesL_ (some 14) rfl rfl Try.func23 (by kernel_rfl) rfl #[.agg #[.slice Ao17 t234.length co17, .slice Ao18 t237.length co18, .slice Ao19 t240.length co19, .slice Ao20 t243.length co20, .slice Ao21 t246.length co21, .slice Ao22 t249.length co22]] rfl (by (try simp only [List.map_toArray, List.map_cons, List.map_nil]); first | done | rfl | (simp only [List.length_drop, List.length_take]; rfl)) ?_; (with_reducible refine (spec_NetOK.calls k _ _ t234 _ _ t237 _ _ t240 _ _ t243 _ _ t246 _ _ t249 t252 _ ?side1 ?side2 ?side3 ?side4 ?side5 ?side6 ?side7 ?side8 ?side9 ?side10 ?side11 ?side12 A8.out).mono ?_); (case side1 => repeat (first | exact (Kd.R_reads' HO236.out).2.2 | (with_reducible refine Kd.C_alloc ?_ _) | (with_reducible refine Kd.C_drewN ?_ _) | (with_reducible refine Kd.C_drew ?_))); (case side2 => exact (Kd.R_reads' HO236.out).2.1); (case side3 => repeat (first | exact (Kd.R_reads' HO239.out).2.2 | (with_reducible refine Kd.C_alloc ?_ _) | (with_reducible refine Kd.C_drewN ?_ _) | (with_reducible refine Kd.C_drew ?_))); (case side4 => exact (Kd.R_reads' HO239.out).2.1); (case side5 => repeat (first | exact (Kd.R_reads' HO242.out).2.2 | (with_reducible refine Kd.C_alloc ?_ _) | (with_reducible refine Kd.C_drewN ?_ _) | (with_reducible refine Kd.C_drew ?_))); (case side6 => exact (Kd.R_reads' HO242.out).2.1); (case side7 => repeat (first | exact (Kd.R_reads' HO245.out).2.2 | (with_reducible refine Kd.C_alloc ?_ _) | (with_reducible refine Kd.C_drewN ?_ _) | (with_reducible refine Kd.C_drew ?_))); (case side8 => exact (Kd.R_reads' HO245.out).2.1); (case side9 => repeat (first | exact (Kd.R_reads' HO248.out).2.2 | (with_reducible refine Kd.C_alloc ?_ _) | (with_reducible refine Kd.C_drewN ?_ _) | (with_reducible refine Kd.C_drew ?_))); (case side10 => exact (Kd.R_reads' HO248.out).2.1); (case side11 => repeat (first | exact (Kd.R_reads' HO251.out).2.2 | (with_reducible refine Kd.C_alloc ?_ _) | (with_reducible refine Kd.C_drewN ?_ _) | (with_reducible refine Kd.C_drew ?_))); (case side12 => exact (Kd.R_reads' HO251.out).2.1); rintro e w23 ⟨rfl, hb⟩; refine ⟨_, rfl, ?_⟩; have n0_ := Aside0.mk (Kd.R_below (by (with_reducible repeat (first | apply Kd.R_alloc | apply Kd.R_drewN | apply Kd.R_drew)); exact HO236.out) hb); have n1_ := Aside0.mk (Kd.R_below (by (with_reducible repeat (first | apply Kd.R_alloc | apply Kd.R_drewN | apply Kd.R_drew)); exact HO239.out) hb); have n2_ := Aside0.mk (Kd.R_below (by (with_reducible repeat (first | apply Kd.R_alloc | apply Kd.R_drewN | apply Kd.R_drew)); exact HO242.out) hb); have n3_ := Aside0.mk (Kd.R_below (by (with_reducible repeat (first | apply Kd.R_alloc | apply Kd.R_drewN | apply Kd.R_drew)); exact HO245.out) hb); have n4_ := Aside0.mk (Kd.R_below (by (with_reducible repeat (first | apply Kd.R_alloc | apply Kd.R_drewN | apply Kd.R_drew)); exact HO248.out) hb); have n5_ := Aside0.mk (Kd.R_below (by (with_reducible repeat (first | apply Kd.R_alloc | apply Kd.R_drewN | apply Kd.R_drew)); exact HO251.out) hb); have n6_ := Aside0.mk (blk_below (g := gb232) (o := .cells #[.slice A0_0 l0_0.length c0_0, .slice A0_1 l0_1.length c0_1, .slice A0_2 l0_2.length c0_2, .slice A0_3 l0_3.length c0_3, .slice A0_4 l0_4.length c0_4, .slice A0_5 l0_5.length c0_5] 28 (0, 0)) (by (with_reducible repeat (first | refine blk_drewN ?_ _ | refine blk_drew ?_ | refine blk_alloc ?_ _)); exact BK232.out) hb); have n7_ := Aside0.mk (below_step (by repeat (first | (with_reducible first | exact HB.out | apply below_alloc | apply pw_below_drewN | apply below_drew1 | refine below_set ?_ GE232.out) | exact HB.out)) hb); clear HO236; clear HO239; clear HO242; clear HO245; clear HO248; clear HO251; clear BK232; clear HB; have HO236 := n0_; have HO239 := n1_; have HO242 := n2_; have HO245 := n3_; have HO248 := n4_; have HO251 := n5_; have BK232 := n6_; have HB := n7_; clear n0_ n1_ n2_ n3_ n4_ n5_ n6_ n7_; (try clear hb); (try clear hb2); (try clear hk); (try clear hi); have hcz24_0 : w23.cell? ⟨gb232, 0, none⟩ = some (.slice A0_0 l0_0.length c0_0) := (blk_cell BK232.out 0).trans rfl; have hcz24_1 : w23.cell? ⟨gb232, 1, none⟩ = some (.slice A0_1 l0_1.length c0_1) := (blk_cell BK232.out 1).trans rfl; have hcz24_2 : w23.cell? ⟨gb232, 2, none⟩ = some (.slice A0_2 l0_2.length c0_2) := (blk_cell BK232.out 2).trans rfl; have hcz24_3 : w23.cell? ⟨gb232, 3, none⟩ = some (.slice A0_3 l0_3.length c0_3) := (blk_cell BK232.out 3).trans rfl; have hcz24_4 : w23.cell? ⟨gb232, 4, none⟩ = some (.slice A0_4 l0_4.length c0_4) := (blk_cell BK232.out 4).trans rfl; have hcz24_5 : w23.cell? ⟨gb232, 5, none⟩ = some (.slice A0_5 l0_5.length c0_5) := (blk_cell BK232.out 5).trans rfl; have hfz24_0 := blk_frozen BK232.out 0; have hfz24_1 := blk_frozen BK232.out 1; have hfz24_2 := blk_frozen BK232.out 2; have hfz24_3 := blk_frozen BK232.out 3; have hfz24_4 := blk_frozen BK232.out 4; have hfz24_5 := blk_frozen BK232.out 5) | ((with_reducible refine gate_callee (f := 10) rfl ?_); refine goesL_ (some 16) rfl rfl Try.func10 (by kernel_rfl) rfl #[.agg #[.slice A0_0 l0_0.length c0_0, .slice A0_1 l0_1.length c0_1, .slice A0_2 l0_2.length c0_2, .slice A0_3 l0_3.length c0_3, .slice A0_4 l0_4.length c0_4, .slice A0_5 l0_5.length c0_5]] rfl (by (try simp only [List.map_toArray, List.map_cons, List.map_nil]); first | done | rfl | (simp only [List.length_drop, List.length_take]; rfl)) ?_; (with_reducible refine (laws_toNet.calls k _ _ l0_0 _ _ l0_1 _ _ l0_2 _ _ l0_3 _ _ l0_4 _ _ l0_5 t253 t256 t259 t262 t265 t268 _ ?side1 ?side2 ?side3 ?side4 ?side5 ?side6 ?side7 ?side8 ?side9 ?side10 ?side11 ?side12 A9.out).mono ?_); (case side1 => repeat (first | exact (Kd.C_below HR0_0.out HB.out) | (with_reducible refine Kd.C_alloc ?_ _) | (with_reducible refine Kd.C_drewN ?_ _) | (with_reducible refine Kd.C_drew ?_))); (case side2 => exact HC0_0.out); (case side3 => repeat (first | exact (Kd.C_below HR0_1.out HB.out) | (with_reducible refine Kd.C_alloc ?_ _) | (with_reducible refine Kd.C_drewN ?_ _) | (with_reducible refine Kd.C_drew ?_))); (case side4 => exact HC0_1.out); (case side5 => repeat (first | exact (Kd.C_below HR0_2.out HB.out) | (with_reducible refine Kd.C_alloc ?_ _) | (with_reducible refine Kd.C_drewN ?_ _) | (with_reducible refine Kd.C_drew ?_))); (case side6 => exact HC0_2.out); (case side7 => repeat (first | exact (Kd.C_below HR0_3.out HB.out) | (with_reducible refine Kd.C_alloc ?_ _) | (with_reducible refine Kd.C_drewN ?_ _) | (with_reducible refine Kd.C_drew ?_))); (case side8 => exact HC0_3.out); (case side9 => repeat (first | exact (Kd.C_below HR0_4.out HB.out) | (with_reducible refine Kd.C_alloc ?_ _) | (with_reducible refine Kd.C_drewN ?_ _) | (with_reducible refine Kd.C_drew ?_))); (case side10 => exact HC0_4.out); (case side11 => repeat (first | exact (Kd.C_below HR0_5.out HB.out) | (with_reducible refine Kd.C_alloc ?_ _) | (with_reducible refine Kd.C_drewN ?_ _) | (with_reducible refine Kd.C_drew ?_))); (case side12 => exact HC0_5.out); rintro e w25 ⟨v254, v257, v260, v263, v266, v269, rfl, ho0, ho1, ho2, ho3, ho4, ho5, hb⟩; refine ⟨_, rfl, ?_⟩; have n0_ := Aside0.mk (Kd.R_elder' (by (with_reducible repeat (first | apply Kd.R_alloc | apply Kd.R_drewN | apply Kd.R_drew)); exact HO236.out) (Kd.R_base ho0) hb); have n1_ := Aside0.mk (Kd.R_elder' (by (with_reducible repeat (first | apply Kd.R_alloc | apply Kd.R_drewN | apply Kd.R_drew)); exact HO239.out) (Kd.R_base ho1) hb); have n2_ := Aside0.mk (Kd.R_mono (Kd.R_told (Kd.R_told (Kd.R_old (by (with_reducible repeat (first | apply Kd.R_alloc | apply Kd.R_drewN | apply Kd.R_drew)); exact HO242.out) hb) (Kd.R_base ho2)) (Kd.R_base ho3)) (fun _ h_ => h_.1)); have n3_ := Aside0.mk (Kd.R_mono (Kd.R_told (Kd.R_told (Kd.R_old (by (with_reducible repeat (first | apply Kd.R_alloc | apply Kd.R_drewN | apply Kd.R_drew)); exact HO245.out) hb) (Kd.R_base ho2)) (Kd.R_base ho3)) (fun _ h_ => h_.1)); have n4_ := Aside0.mk (Kd.R_elder' (by (with_reducible repeat (first | apply Kd.R_alloc | apply Kd.R_drewN | apply Kd.R_drew)); exact HO248.out) (Kd.R_base ho4) hb); have n5_ := Aside0.mk (Kd.R_elder' (by (with_reducible repeat (first | apply Kd.R_alloc | apply Kd.R_drewN | apply Kd.R_drew)); exact HO251.out) (Kd.R_base ho5) hb); have n6_ := Aside0.mk (Kd.R_lower (Kd.R_new' ho0 (Kd.R_lt (by (with_reducible repeat (first | apply Kd.R_alloc | apply Kd.R_drewN | apply Kd.R_drew)); exact HO236.out))) (below_size (by repeat (first | (with_reducible first | exact HB.out | apply below_alloc | apply pw_below_drewN | apply below_drew1 | refine below_set ?_ GE232.out) | exact HB.out)))); have n7_ := Aside0.mk (Kd.R_lower (Kd.R_new' ho1 (Kd.R_lt (by (with_reducible repeat (first | apply Kd.R_alloc | apply Kd.R_drewN | apply Kd.R_drew)); exact HO239.out))) (below_size (by repeat (first | (with_reducible first | exact HB.out | apply below_alloc | apply pw_below_drewN | apply below_drew1 | refine below_set ?_ GE232.out) | exact HB.out)))); have n8_ := Aside0.mk (Kd.R_lower (Kd.R_new' (Kd.R_new' ho2 (Kd.R_lt (by (with_reducible repeat (first | apply Kd.R_alloc | apply Kd.R_drewN | apply Kd.R_drew)); exact HO242.out))) (Kd.R_lt (by (with_reducible repeat (first | apply Kd.R_alloc | apply Kd.R_drewN | apply Kd.R_drew)); exact HO245.out))) (below_size (by repeat (first | (with_reducible first | exact HB.out | apply below_alloc | apply pw_below_drewN | apply below_drew1 | refine below_set ?_ GE232.out) | exact HB.out)))); have n9_ := Aside0.mk (Kd.R_lower (Kd.R_new' (Kd.R_new' ho3 (Kd.R_lt (by (with_reducible repeat (first | apply Kd.R_alloc | apply Kd.R_drewN | apply Kd.R_drew)); exact HO242.out))) (Kd.R_lt (by (with_reducible repeat (first | apply Kd.R_alloc | apply Kd.R_drewN | apply Kd.R_drew)); exact HO245.out))) (below_size (by repeat (first | (with_reducible first | exact HB.out | apply below_alloc | apply pw_below_drewN | apply below_drew1 | refine below_set ?_ GE232.out) | exact HB.out)))); have n10_ := Aside0.mk (Kd.R_lower (Kd.R_new' ho4 (Kd.R_lt (by (with_reducible repeat (first | apply Kd.R_alloc | apply Kd.R_drewN | apply Kd.R_drew)); exact HO248.out))) (below_size (by repeat (first | (with_reducible first | exact HB.out | apply below_alloc | apply pw_below_drewN | apply below_drew1 | refine below_set ?_ GE232.out) | exact HB.out)))); have n11_ := Aside0.mk (Kd.R_lower (Kd.R_new' ho5 (Kd.R_lt (by (with_reducible repeat (first | apply Kd.R_alloc | apply Kd.R_drewN | apply Kd.R_drew)); exact HO251.out))) (below_size (by repeat (first | (with_reducible first | exact HB.out | apply below_alloc | apply pw_below_drewN | apply below_drew1 | refine below_set ?_ GE232.out) | exact HB.out)))); have n12_ := Aside0.mk (blk_below (g := gb232) (o := .cells #[.slice A0_0 l0_0.length c0_0, .slice A0_1 l0_1.length c0_1, .slice A0_2 l0_2.length c0_2, .slice A0_3 l0_3.length c0_3, .slice A0_4 l0_4.length c0_4, .slice A0_5 l0_5.length c0_5] 28 (0, 0)) (by (with_reducible repeat (first | refine blk_drewN ?_ _ | refine blk_drew ?_ | refine blk_alloc ?_ _)); exact BK232.out) hb); have n13_ := Aside0.mk (below_step (by repeat (first | (with_reducible first | exact HB.out | apply below_alloc | apply pw_below_drewN | apply below_drew1 | refine below_set ?_ GE232.out) | exact HB.out)) hb); clear HO236; clear HO239; clear HO242; clear HO245; clear HO248; clear HO251; clear BK232; clear HB; have HO236 := n0_; have HO239 := n1_; have HO242 := n2_; have HO245 := n3_; have HO248 := n4_; have HO251 := n5_; have HO255 := n6_; have HO258 := n7_; have HO261 := n8_; have HO264 := n9_; have HO267 := n10_; have HO270 := n11_; have BK232 := n12_; have HB := n13_; clear n0_ n1_ n2_ n3_ n4_ n5_ n6_ n7_ n8_ n9_ n10_ n11_ n12_ n13_; (try clear hb); (try clear hb2); (try clear hk); (try clear hi); (try clear ho0); (try clear ho1); (try clear ho2); (try clear ho3); (try clear ho4); (try clear ho5)) | ((with_reducible refine gate_dst (N := 5) rfl ?_); refine box_event ?hg (N := 5) ?hd (cs := #[.slice none 0 0, .slice none 0 0, .slice none 0 0, .slice none 0 0, .slice none 0 0, .slice none 0 0]) (t := 38) ?hr ?_; (case hd => rfl); (case hg => rfl); (case hr => first | (go_simp; done) | (go_simp; rfl)); intro gb271 hg w26 hbox hb; have n0_ := Aside0.mk (Kd.R_below (by (with_reducible repeat (first | apply Kd.R_alloc | apply Kd.R_drewN | apply Kd.R_drew)); exact HO236.out) hb); have n1_ := Aside0.mk (Kd.R_below (by (with_reducible repeat (first | apply Kd.R_alloc | apply Kd.R_drewN | apply Kd.R_drew)); exact HO239.out) hb); have n2_ := Aside0.mk (Kd.R_below (by (with_reducible repeat (first | apply Kd.R_alloc | apply Kd.R_drewN | apply Kd.R_drew)); exact HO242.out) hb); have n3_ := Aside0.mk (Kd.R_below (by (with_reducible repeat (first | apply Kd.R_alloc | apply Kd.R_drewN | apply Kd.R_drew)); exact HO245.out) hb); have n4_ := Aside0.mk (Kd.R_below (by (with_reducible repeat (first | apply Kd.R_alloc | apply Kd.R_drewN | apply Kd.R_drew)); exact HO248.out) hb); have n5_ := Aside0.mk (Kd.R_below (by (with_reducible repeat (first | apply Kd.R_alloc | apply Kd.R_drewN | apply Kd.R_drew)); exact HO251.out) hb); have n6_ := Aside0.mk (Kd.R_below (by (with_reducible repeat (first | apply Kd.R_alloc | apply Kd.R_drewN | apply Kd.R_drew)); exact HO255.out) hb); have n7_ := Aside0.mk (Kd.R_below (by (with_reducible repeat (first | apply Kd.R_alloc | apply Kd.R_drewN | apply Kd.R_drew)); exact HO258.out) hb); have n8_ := Aside0.mk (Kd.R_below (by (with_reducible repeat (first | apply Kd.R_alloc | apply Kd.R_drewN | apply Kd.R_drew)); exact HO261.out) hb); have n9_ := Aside0.mk (Kd.R_below (by (with_reducible repeat (first | apply Kd.R_alloc | apply Kd.R_drewN | apply Kd.R_drew)); exact HO264.out) hb); have n10_ := Aside0.mk (Kd.R_below (by (with_reducible repeat (first | apply Kd.R_alloc | apply Kd.R_drewN | apply Kd.R_drew)); exact HO267.out) hb); have n11_ := Aside0.mk (Kd.R_below (by (with_reducible repeat (first | apply Kd.R_alloc | apply Kd.R_drewN | apply Kd.R_drew)); exact HO270.out) hb); have n12_ := Aside0.mk (blk_below (g := gb232) (o := .cells #[.slice A0_0 l0_0.length c0_0, .slice A0_1 l0_1.length c0_1, .slice A0_2 l0_2.length c0_2, .slice A0_3 l0_3.length c0_3, .slice A0_4 l0_4.length c0_4, .slice A0_5 l0_5.length c0_5] 28 (0, 0)) (by (with_reducible repeat (first | refine blk_drewN ?_ _ | refine blk_drew ?_ | refine blk_alloc ?_ _)); exact BK232.out) hb); have n13_ := Aside0.mk (below_step (by repeat (first | (with_reducible first | exact HB.out | apply below_alloc | apply pw_below_drewN | apply below_drew1 | refine below_set ?_ GE232.out) | exact HB.out)) hb); have n14_ := Aside0.mk (hbox); have n15_ := Aside0.mk ((by rw [hg]; exact (below_size (by repeat (first | (with_reducible first | exact HB.out | apply below_alloc | apply pw_below_drewN | apply below_drew1 | refine below_set ?_ GE232.out) | exact HB.out))) : w.heap.size ≤ gb271)); have n16_ := Aside0.mk ((by rw [hg]; exact (below_size (by repeat (first | (with_reducible first | exact HB.out | apply below_alloc | apply pw_below_drewN | apply below_drew1 | refine below_set ?_ GE232.out) | exact HB.out))) : w.heap.size ≤ gb271)); have n17_ := Aside0.mk ((by rw [hg]; exact Nat.ne_of_lt (blk_lt (g := gb232) (o := .cells #[.slice A0_0 l0_0.length c0_0, .slice A0_1 l0_1.length c0_1, .slice A0_2 l0_2.length c0_2, .slice A0_3 l0_3.length c0_3, .slice A0_4 l0_4.length c0_4, .slice A0_5 l0_5.length c0_5] 28 (0, 0)) (by (with_reducible repeat (first | refine blk_drewN ?_ _ | refine blk_drew ?_ | refine blk_alloc ?_ _)); exact BK232.out)) : gb232 ≠ gb271)); have n18_ := Aside0.mk ((by rw [hg]; exact Nat.ne_of_gt (blk_lt (g := gb232) (o := .cells #[.slice A0_0 l0_0.length c0_0, .slice A0_1 l0_1.length c0_1, .slice A0_2 l0_2.length c0_2, .slice A0_3 l0_3.length c0_3, .slice A0_4 l0_4.length c0_4, .slice A0_5 l0_5.length c0_5] 28 (0, 0)) (by (with_reducible repeat (first | refine blk_drewN ?_ _ | refine blk_drew ?_ | refine blk_alloc ?_ _)); exact BK232.out)) : gb271 ≠ gb232)); clear HO236; clear HO239; clear HO242; clear HO245; clear HO248; clear HO251; clear HO255; clear HO258; clear HO261; clear HO264; clear HO267; clear HO270; clear BK232; clear HB; have HO236 := n0_; have HO239 := n1_; have HO242 := n2_; have HO245 := n3_; have HO248 := n4_; have HO251 := n5_; have HO255 := n6_; have HO258 := n7_; have HO261 := n8_; have HO264 := n9_; have HO267 := n10_; have HO270 := n11_; have BK232 := n12_; have HB := n13_; have BK271 := n14_; have GW271 := n15_; have GE271 := n16_; have NB232_271 := n17_; have NB271_232 := n18_; clear n0_ n1_ n2_ n3_ n4_ n5_ n6_ n7_ n8_ n9_ n10_ n11_ n12_ n13_ n14_ n15_ n16_ n17_ n18_; clear hb hbox hg; obtain ⟨Ao27, co27, eo27⟩ := Kd.R_slice HO255.out; subst eo27; have hnb28 := NB271_232.out; have hnc28 := NB232_271.out; have hcz29_0 : w26.cell? ⟨gb271, 0, none⟩ = some (.slice none 0 0) := (blk_cell BK271.out 0).trans rfl; have hcz29_1 : w26.cell? ⟨gb271, 1, none⟩ = some (.slice none 0 0) := (blk_cell BK271.out 1).trans rfl; have hcz29_2 : w26.cell? ⟨gb271, 2, none⟩ = some (.slice none 0 0) := (blk_cell BK271.out 2).trans rfl; have hcz29_3 : w26.cell? ⟨gb271, 3, none⟩ = some (.slice none 0 0) := (blk_cell BK271.out 3).trans rfl; have hcz29_4 : w26.cell? ⟨gb271, 4, none⟩ = some (.slice none 0 0) := (blk_cell BK271.out 4).trans rfl; have hcz29_5 : w26.cell? ⟨gb271, 5, none⟩ = some (.slice none 0 0) := (blk_cell BK271.out 5).trans rfl; have hfz29_0 := blk_frozen BK271.out 0; have hfz29_1 := blk_frozen BK271.out 1; have hfz29_2 := blk_frozen BK271.out 2; have hfz29_3 := blk_frozen BK271.out 3; have hfz29_4 := blk_frozen BK271.out 4; have hfz29_5 := blk_frozen BK271.out 5; obtain ⟨Ao30, co30, eo30⟩ := Kd.R_slice HO258.out; subst eo30; obtain ⟨Ao31, co31, eo31⟩ := Kd.R_slice HO261.out; subst eo31; obtain ⟨Ao32, co32, eo32⟩ := Kd.R_slice HO264.out; subst eo32; obtain ⟨Ao33, co33, eo33⟩ := Kd.R_slice HO267.out; subst eo33; obtain ⟨Ao34, co34, eo34⟩ := Kd.R_slice HO270.out; subst eo34) | ((with_reducible refine gate_callee (f := 24) rfl ?_); refine goesL_ (some 18) rfl rfl Try.func24 (by kernel_rfl) rfl #[.agg #[.slice Ao27 t253.length co27, .slice Ao30 t256.length co30, .slice Ao31 t259.length co31, .slice Ao32 t262.length co32, .slice Ao33 t265.length co33, .slice Ao34 t268.length co34]] rfl (by (try simp only [List.map_toArray, List.map_cons, List.map_nil]); first | done | rfl | (simp only [List.length_drop, List.length_take]; rfl)) ?_; (with_reducible refine (impl_NetOK.calls k _ _ t253 _ _ t256 _ _ t259 _ _ t262 _ _ t265 _ _ t268 t272 _ ?side1 ?side2 ?side3 ?side4 ?side5 ?side6 ?side7 ?side8 ?side9 ?side10 ?side11 ?side12 A10.out).mono ?_); (case side1 => refine (Kd.R_reads' (e := 9) (base := w.heap.size) (ok := fun k_ => (True ∧ some k_ ≠ (.slice Ao17 t234.length co17 : Value).ownBlock)) (n := t253.length) (c := co27) ?_).2.2; exact (by (with_reducible repeat (first | apply Kd.R_alloc | apply Kd.R_drewN | apply Kd.R_drew)); exact (Kd.R_mono (Kd.R_far (p := ⟨gb271, 5, none⟩) (Kd.R_far (p := ⟨gb271, 4, none⟩) (Kd.R_far (p := ⟨gb271, 3, none⟩) (Kd.R_far (p := ⟨gb271, 2, none⟩) (Kd.R_far (p := ⟨gb271, 1, none⟩) (Kd.R_far (p := ⟨gb271, 0, none⟩) (Kd.R_types HO255.out BK271.out (by decide)) (fun _ hk => hk.2) (.slice Ao27 t253.length co27)) (fun _ hk => hk.2) (.slice Ao30 t256.length co30)) (fun _ hk => hk.2) (.slice Ao31 t259.length co31)) (fun _ hk => hk.2) (.slice Ao32 t262.length co32)) (fun _ hk => hk.2) (.slice Ao33 t265.length co33)) (fun _ hk => hk.2) (.slice Ao34 t268.length co34)) (fun _ h_ => h_.1)))); (case side2 => exact (Kd.R_reads' HO255.out).2.1); (case side3 => refine (Kd.R_reads' (e := 92) (base := w.heap.size) (ok := fun k_ => (True ∧ some k_ ≠ (.slice Ao18 t237.length co18 : Value).ownBlock)) (n := t256.length) (c := co30) ?_).2.2; exact (by (with_reducible repeat (first | apply Kd.R_alloc | apply Kd.R_drewN | apply Kd.R_drew)); exact (Kd.R_mono (Kd.R_far (p := ⟨gb271, 5, none⟩) (Kd.R_far (p := ⟨gb271, 4, none⟩) (Kd.R_far (p := ⟨gb271, 3, none⟩) (Kd.R_far (p := ⟨gb271, 2, none⟩) (Kd.R_far (p := ⟨gb271, 1, none⟩) (Kd.R_far (p := ⟨gb271, 0, none⟩) (Kd.R_types HO258.out BK271.out (by decide)) (fun _ hk => hk.2) (.slice Ao27 t253.length co27)) (fun _ hk => hk.2) (.slice Ao30 t256.length co30)) (fun _ hk => hk.2) (.slice Ao31 t259.length co31)) (fun _ hk => hk.2) (.slice Ao32 t262.length co32)) (fun _ hk => hk.2) (.slice Ao33 t265.length co33)) (fun _ hk => hk.2) (.slice Ao34 t268.length co34)) (fun _ h_ => h_.1)))); (case side4 => exact (Kd.R_reads' HO258.out).2.1); (case side5 => refine (Kd.R_reads' (e := 3) (base := w.heap.size) (ok := fun k_ => ((some k_ ≠ (.slice Ao32 t262.length co32 : Value).ownBlock ∧ some k_ ≠ (.slice Ao19 t240.length co19 : Value).ownBlock) ∧ some k_ ≠ (.slice Ao20 t243.length co20 : Value).ownBlock)) (n := t259.length) (c := co31) ?_).2.2; exact (by (with_reducible repeat (first | apply Kd.R_alloc | apply Kd.R_drewN | apply Kd.R_drew)); exact (Kd.R_mono (Kd.R_far (p := ⟨gb271, 5, none⟩) (Kd.R_far (p := ⟨gb271, 4, none⟩) (Kd.R_far (p := ⟨gb271, 3, none⟩) (Kd.R_far (p := ⟨gb271, 2, none⟩) (Kd.R_far (p := ⟨gb271, 1, none⟩) (Kd.R_far (p := ⟨gb271, 0, none⟩) (Kd.R_types HO261.out BK271.out (by decide)) (fun _ hk => hk.2) (.slice Ao27 t253.length co27)) (fun _ hk => hk.2) (.slice Ao30 t256.length co30)) (fun _ hk => hk.2) (.slice Ao31 t259.length co31)) (fun _ hk => hk.2) (.slice Ao32 t262.length co32)) (fun _ hk => hk.2) (.slice Ao33 t265.length co33)) (fun _ hk => hk.2) (.slice Ao34 t268.length co34)) (fun _ h_ => h_.1)))); (case side6 => exact (Kd.R_reads' HO261.out).2.1); (case side7 => refine (Kd.R_reads' (e := 3) (base := w.heap.size) (ok := fun k_ => ((some k_ ≠ (.slice Ao31 t259.length co31 : Value).ownBlock ∧ some k_ ≠ (.slice Ao19 t240.length co19 : Value).ownBlock) ∧ some k_ ≠ (.slice Ao20 t243.length co20 : Value).ownBlock)) (n := t262.length) (c := co32) ?_).2.2; exact (by (with_reducible repeat (first | apply Kd.R_alloc | apply Kd.R_drewN | apply Kd.R_drew)); exact (Kd.R_mono (Kd.R_far (p := ⟨gb271, 5, none⟩) (Kd.R_far (p := ⟨gb271, 4, none⟩) (Kd.R_far (p := ⟨gb271, 3, none⟩) (Kd.R_far (p := ⟨gb271, 2, none⟩) (Kd.R_far (p := ⟨gb271, 1, none⟩) (Kd.R_far (p := ⟨gb271, 0, none⟩) (Kd.R_types HO264.out BK271.out (by decide)) (fun _ hk => hk.2) (.slice Ao27 t253.length co27)) (fun _ hk => hk.2) (.slice Ao30 t256.length co30)) (fun _ hk => hk.2) (.slice Ao31 t259.length co31)) (fun _ hk => hk.2) (.slice Ao32 t262.length co32)) (fun _ hk => hk.2) (.slice Ao33 t265.length co33)) (fun _ hk => hk.2) (.slice Ao34 t268.length co34)) (fun _ h_ => h_.1)))); (case side8 => exact (Kd.R_reads' HO264.out).2.1); (case side9 => refine (Kd.R_reads' (e := 95) (base := w.heap.size) (ok := fun k_ => (True ∧ some k_ ≠ (.slice Ao21 t246.length co21 : Value).ownBlock)) (n := t265.length) (c := co33) ?_).2.2; exact (by (with_reducible repeat (first | apply Kd.R_alloc | apply Kd.R_drewN | apply Kd.R_drew)); exact (Kd.R_mono (Kd.R_far (p := ⟨gb271, 5, none⟩) (Kd.R_far (p := ⟨gb271, 4, none⟩) (Kd.R_far (p := ⟨gb271, 3, none⟩) (Kd.R_far (p := ⟨gb271, 2, none⟩) (Kd.R_far (p := ⟨gb271, 1, none⟩) (Kd.R_far (p := ⟨gb271, 0, none⟩) (Kd.R_types HO267.out BK271.out (by decide)) (fun _ hk => hk.2) (.slice Ao27 t253.length co27)) (fun _ hk => hk.2) (.slice Ao30 t256.length co30)) (fun _ hk => hk.2) (.slice Ao31 t259.length co31)) (fun _ hk => hk.2) (.slice Ao32 t262.length co32)) (fun _ hk => hk.2) (.slice Ao33 t265.length co33)) (fun _ hk => hk.2) (.slice Ao34 t268.length co34)) (fun _ h_ => h_.1)))); (case side10 => exact (Kd.R_reads' HO267.out).2.1); (case side11 => refine (Kd.R_reads' (e := 97) (base := w.heap.size) (ok := fun k_ => (True ∧ some k_ ≠ (.slice Ao22 t249.length co22 : Value).ownBlock)) (n := t268.length) (c := co34) ?_).2.2; exact (by (with_reducible repeat (first | apply Kd.R_alloc | apply Kd.R_drewN | apply Kd.R_drew)); exact (Kd.R_mono (Kd.R_far (p := ⟨gb271, 5, none⟩) (Kd.R_far (p := ⟨gb271, 4, none⟩) (Kd.R_far (p := ⟨gb271, 3, none⟩) (Kd.R_far (p := ⟨gb271, 2, none⟩) (Kd.R_far (p := ⟨gb271, 1, none⟩) (Kd.R_far (p := ⟨gb271, 0, none⟩) (Kd.R_types HO270.out BK271.out (by decide)) (fun _ hk => hk.2) (.slice Ao27 t253.length co27)) (fun _ hk => hk.2) (.slice Ao30 t256.length co30)) (fun _ hk => hk.2) (.slice Ao31 t259.length co31)) (fun _ hk => hk.2) (.slice Ao32 t262.length co32)) (fun _ hk => hk.2) (.slice Ao33 t265.length co33)) (fun _ hk => hk.2) (.slice Ao34 t268.length co34)) (fun _ h_ => h_.1)))); (case side12 => exact (Kd.R_reads' HO270.out).2.1); rintro e w35 ⟨rfl, hb⟩; refine ⟨_, rfl, ?_⟩; have n0_ := Aside0.mk (Kd.R_below (by (with_reducible repeat (first | apply Kd.R_alloc | apply Kd.R_drewN | apply Kd.R_drew)); exact (Kd.R_mono (Kd.R_far (p := ⟨gb271, 5, none⟩) (Kd.R_far (p := ⟨gb271, 4, none⟩) (Kd.R_far (p := ⟨gb271, 3, none⟩) (Kd.R_far (p := ⟨gb271, 2, none⟩) (Kd.R_far (p := ⟨gb271, 1, none⟩) (Kd.R_far (p := ⟨gb271, 0, none⟩) (Kd.R_types HO236.out BK271.out (by decide)) (fun _ hk => hk.2) (.slice Ao27 t253.length co27)) (fun _ hk => hk.2) (.slice Ao30 t256.length co30)) (fun _ hk => hk.2) (.slice Ao31 t259.length co31)) (fun _ hk => hk.2) (.slice Ao32 t262.length co32)) (fun _ hk => hk.2) (.slice Ao33 t265.length co33)) (fun _ hk => hk.2) (.slice Ao34 t268.length co34)) (fun _ h_ => h_.1))) hb); have n1_ := Aside0.mk (Kd.R_below (by (with_reducible repeat (first | apply Kd.R_alloc | apply Kd.R_drewN | apply Kd.R_drew)); exact (Kd.R_mono (Kd.R_far (p := ⟨gb271, 5, none⟩) (Kd.R_far (p := ⟨gb271, 4, none⟩) (Kd.R_far (p := ⟨gb271, 3, none⟩) (Kd.R_far (p := ⟨gb271, 2, none⟩) (Kd.R_far (p := ⟨gb271, 1, none⟩) (Kd.R_far (p := ⟨gb271, 0, none⟩) (Kd.R_types HO239.out BK271.out (by decide)) (fun _ hk => hk.2) (.slice Ao27 t253.length co27)) (fun _ hk => hk.2) (.slice Ao30 t256.length co30)) (fun _ hk => hk.2) (.slice Ao31 t259.length co31)) (fun _ hk => hk.2) (.slice Ao32 t262.length co32)) (fun _ hk => hk.2) (.slice Ao33 t265.length co33)) (fun _ hk => hk.2) (.slice Ao34 t268.length co34)) (fun _ h_ => h_.1))) hb); have n2_ := Aside0.mk (Kd.R_below (by (with_reducible repeat (first | apply Kd.R_alloc | apply Kd.R_drewN | apply Kd.R_drew)); exact (Kd.R_mono (Kd.R_far (p := ⟨gb271, 5, none⟩) (Kd.R_far (p := ⟨gb271, 4, none⟩) (Kd.R_far (p := ⟨gb271, 3, none⟩) (Kd.R_far (p := ⟨gb271, 2, none⟩) (Kd.R_far (p := ⟨gb271, 1, none⟩) (Kd.R_far (p := ⟨gb271, 0, none⟩) (Kd.R_types HO242.out BK271.out (by decide)) (fun _ hk => hk.2) (.slice Ao27 t253.length co27)) (fun _ hk => hk.2) (.slice Ao30 t256.length co30)) (fun _ hk => hk.2) (.slice Ao31 t259.length co31)) (fun _ hk => hk.2) (.slice Ao32 t262.length co32)) (fun _ hk => hk.2) (.slice Ao33 t265.length co33)) (fun _ hk => hk.2) (.slice Ao34 t268.length co34)) (fun _ h_ => h_.1))) hb); have n3_ := Aside0.mk (Kd.R_below (by (with_reducible repeat (first | apply Kd.R_alloc | apply Kd.R_drewN | apply Kd.R_drew)); exact (Kd.R_mono (Kd.R_far (p := ⟨gb271, 5, none⟩) (Kd.R_far (p := ⟨gb271, 4, none⟩) (Kd.R_far (p := ⟨gb271, 3, none⟩) (Kd.R_far (p := ⟨gb271, 2, none⟩) (Kd.R_far (p := ⟨gb271, 1, none⟩) (Kd.R_far (p := ⟨gb271, 0, none⟩) (Kd.R_types HO245.out BK271.out (by decide)) (fun _ hk => hk.2) (.slice Ao27 t253.length co27)) (fun _ hk => hk.2) (.slice Ao30 t256.length co30)) (fun _ hk => hk.2) (.slice Ao31 t259.length co31)) (fun _ hk => hk.2) (.slice Ao32 t262.length co32)) (fun _ hk => hk.2) (.slice Ao33 t265.length co33)) (fun _ hk => hk.2) (.slice Ao34 t268.length co34)) (fun _ h_ => h_.1))) hb); have n4_ := Aside0.mk (Kd.R_below (by (with_reducible repeat (first | apply Kd.R_alloc | apply Kd.R_drewN | apply Kd.R_drew)); exact (Kd.R_mono (Kd.R_far (p := ⟨gb271, 5, none⟩) (Kd.R_far (p := ⟨gb271, 4, none⟩) (Kd.R_far (p := ⟨gb271, 3, none⟩) (Kd.R_far (p := ⟨gb271, 2, none⟩) (Kd.R_far (p := ⟨gb271, 1, none⟩) (Kd.R_far (p := ⟨gb271, 0, none⟩) (Kd.R_types HO248.out BK271.out (by decide)) (fun _ hk => hk.2) (.slice Ao27 t253.length co27)) (fun _ hk => hk.2) (.slice Ao30 t256.length co30)) (fun _ hk => hk.2) (.slice Ao31 t259.length co31)) (fun _ hk => hk.2) (.slice Ao32 t262.length co32)) (fun _ hk => hk.2) (.slice Ao33 t265.length co33)) (fun _ hk => hk.2) (.slice Ao34 t268.length co34)) (fun _ h_ => h_.1))) hb); have n5_ := Aside0.mk (Kd.R_below (by (with_reducible repeat (first | apply Kd.R_alloc | apply Kd.R_drewN | apply Kd.R_drew)); exact (Kd.R_mono (Kd.R_far (p := ⟨gb271, 5, none⟩) (Kd.R_far (p := ⟨gb271, 4, none⟩) (Kd.R_far (p := ⟨gb271, 3, none⟩) (Kd.R_far (p := ⟨gb271, 2, none⟩) (Kd.R_far (p := ⟨gb271, 1, none⟩) (Kd.R_far (p := ⟨gb271, 0, none⟩) (Kd.R_types HO251.out BK271.out (by decide)) (fun _ hk => hk.2) (.slice Ao27 t253.length co27)) (fun _ hk => hk.2) (.slice Ao30 t256.length co30)) (fun _ hk => hk.2) (.slice Ao31 t259.length co31)) (fun _ hk => hk.2) (.slice Ao32 t262.length co32)) (fun _ hk => hk.2) (.slice Ao33 t265.length co33)) (fun _ hk => hk.2) (.slice Ao34 t268.length co34)) (fun _ h_ => h_.1))) hb); have n6_ := Aside0.mk (Kd.R_below (by (with_reducible repeat (first | apply Kd.R_alloc | apply Kd.R_drewN | apply Kd.R_drew)); exact (Kd.R_mono (Kd.R_far (p := ⟨gb271, 5, none⟩) (Kd.R_far (p := ⟨gb271, 4, none⟩) (Kd.R_far (p := ⟨gb271, 3, none⟩) (Kd.R_far (p := ⟨gb271, 2, none⟩) (Kd.R_far (p := ⟨gb271, 1, none⟩) (Kd.R_far (p := ⟨gb271, 0, none⟩) (Kd.R_types HO255.out BK271.out (by decide)) (fun _ hk => hk.2) (.slice Ao27 t253.length co27)) (fun _ hk => hk.2) (.slice Ao30 t256.length co30)) (fun _ hk => hk.2) (.slice Ao31 t259.length co31)) (fun _ hk => hk.2) (.slice Ao32 t262.length co32)) (fun _ hk => hk.2) (.slice Ao33 t265.length co33)) (fun _ hk => hk.2) (.slice Ao34 t268.length co34)) (fun _ h_ => h_.1))) hb); have n7_ := Aside0.mk (Kd.R_below (by (with_reducible repeat (first | apply Kd.R_alloc | apply Kd.R_drewN | apply Kd.R_drew)); exact (Kd.R_mono (Kd.R_far (p := ⟨gb271, 5, none⟩) (Kd.R_far (p := ⟨gb271, 4, none⟩) (Kd.R_far (p := ⟨gb271, 3, none⟩) (Kd.R_far (p := ⟨gb271, 2, none⟩) (Kd.R_far (p := ⟨gb271, 1, none⟩) (Kd.R_far (p := ⟨gb271, 0, none⟩) (Kd.R_types HO258.out BK271.out (by decide)) (fun _ hk => hk.2) (.slice Ao27 t253.length co27)) (fun _ hk => hk.2) (.slice Ao30 t256.length co30)) (fun _ hk => hk.2) (.slice Ao31 t259.length co31)) (fun _ hk => hk.2) (.slice Ao32 t262.length co32)) (fun _ hk => hk.2) (.slice Ao33 t265.length co33)) (fun _ hk => hk.2) (.slice Ao34 t268.length co34)) (fun _ h_ => h_.1))) hb); have n8_ := Aside0.mk (Kd.R_below (by (with_reducible repeat (first | apply Kd.R_alloc | apply Kd.R_drewN | apply Kd.R_drew)); exact (Kd.R_mono (Kd.R_far (p := ⟨gb271, 5, none⟩) (Kd.R_far (p := ⟨gb271, 4, none⟩) (Kd.R_far (p := ⟨gb271, 3, none⟩) (Kd.R_far (p := ⟨gb271, 2, none⟩) (Kd.R_far (p := ⟨gb271, 1, none⟩) (Kd.R_far (p := ⟨gb271, 0, none⟩) (Kd.R_types HO261.out BK271.out (by decide)) (fun _ hk => hk.2) (.slice Ao27 t253.length co27)) (fun _ hk => hk.2) (.slice Ao30 t256.length co30)) (fun _ hk => hk.2) (.slice Ao31 t259.length co31)) (fun _ hk => hk.2) (.slice Ao32 t262.length co32)) (fun _ hk => hk.2) (.slice Ao33 t265.length co33)) (fun _ hk => hk.2) (.slice Ao34 t268.length co34)) (fun _ h_ => h_.1))) hb); have n9_ := Aside0.mk (Kd.R_below (by (with_reducible repeat (first | apply Kd.R_alloc | apply Kd.R_drewN | apply Kd.R_drew)); exact (Kd.R_mono (Kd.R_far (p := ⟨gb271, 5, none⟩) (Kd.R_far (p := ⟨gb271, 4, none⟩) (Kd.R_far (p := ⟨gb271, 3, none⟩) (Kd.R_far (p := ⟨gb271, 2, none⟩) (Kd.R_far (p := ⟨gb271, 1, none⟩) (Kd.R_far (p := ⟨gb271, 0, none⟩) (Kd.R_types HO264.out BK271.out (by decide)) (fun _ hk => hk.2) (.slice Ao27 t253.length co27)) (fun _ hk => hk.2) (.slice Ao30 t256.length co30)) (fun _ hk => hk.2) (.slice Ao31 t259.length co31)) (fun _ hk => hk.2) (.slice Ao32 t262.length co32)) (fun _ hk => hk.2) (.slice Ao33 t265.length co33)) (fun _ hk => hk.2) (.slice Ao34 t268.length co34)) (fun _ h_ => h_.1))) hb); have n10_ := Aside0.mk (Kd.R_below (by (with_reducible repeat (first | apply Kd.R_alloc | apply Kd.R_drewN | apply Kd.R_drew)); exact (Kd.R_mono (Kd.R_far (p := ⟨gb271, 5, none⟩) (Kd.R_far (p := ⟨gb271, 4, none⟩) (Kd.R_far (p := ⟨gb271, 3, none⟩) (Kd.R_far (p := ⟨gb271, 2, none⟩) (Kd.R_far (p := ⟨gb271, 1, none⟩) (Kd.R_far (p := ⟨gb271, 0, none⟩) (Kd.R_types HO267.out BK271.out (by decide)) (fun _ hk => hk.2) (.slice Ao27 t253.length co27)) (fun _ hk => hk.2) (.slice Ao30 t256.length co30)) (fun _ hk => hk.2) (.slice Ao31 t259.length co31)) (fun _ hk => hk.2) (.slice Ao32 t262.length co32)) (fun _ hk => hk.2) (.slice Ao33 t265.length co33)) (fun _ hk => hk.2) (.slice Ao34 t268.length co34)) (fun _ h_ => h_.1))) hb); have n11_ := Aside0.mk (Kd.R_below (by (with_reducible repeat (first | apply Kd.R_alloc | apply Kd.R_drewN | apply Kd.R_drew)); exact (Kd.R_mono (Kd.R_far (p := ⟨gb271, 5, none⟩) (Kd.R_far (p := ⟨gb271, 4, none⟩) (Kd.R_far (p := ⟨gb271, 3, none⟩) (Kd.R_far (p := ⟨gb271, 2, none⟩) (Kd.R_far (p := ⟨gb271, 1, none⟩) (Kd.R_far (p := ⟨gb271, 0, none⟩) (Kd.R_types HO270.out BK271.out (by decide)) (fun _ hk => hk.2) (.slice Ao27 t253.length co27)) (fun _ hk => hk.2) (.slice Ao30 t256.length co30)) (fun _ hk => hk.2) (.slice Ao31 t259.length co31)) (fun _ hk => hk.2) (.slice Ao32 t262.length co32)) (fun _ hk => hk.2) (.slice Ao33 t265.length co33)) (fun _ hk => hk.2) (.slice Ao34 t268.length co34)) (fun _ h_ => h_.1))) hb); have n12_ := Aside0.mk (blk_below (g := gb232) (o := .cells #[.slice A0_0 l0_0.length c0_0, .slice A0_1 l0_1.length c0_1, .slice A0_2 l0_2.length c0_2, .slice A0_3 l0_3.length c0_3, .slice A0_4 l0_4.length c0_4, .slice A0_5 l0_5.length c0_5] 28 (0, 0)) (by (with_reducible repeat (first | refine blk_drewN ?_ _ | refine blk_drew ?_ | refine blk_alloc ?_ _)); refine blk_far ?_ NB232_271.out _; (with_reducible repeat (first | refine blk_drewN ?_ _ | refine blk_drew ?_ | refine blk_alloc ?_ _)); refine blk_far ?_ NB232_271.out _; (with_reducible repeat (first | refine blk_drewN ?_ _ | refine blk_drew ?_ | refine blk_alloc ?_ _)); refine blk_far ?_ NB232_271.out _; (with_reducible repeat (first | refine blk_drewN ?_ _ | refine blk_drew ?_ | refine blk_alloc ?_ _)); refine blk_far ?_ NB232_271.out _; (with_reducible repeat (first | refine blk_drewN ?_ _ | refine blk_drew ?_ | refine blk_alloc ?_ _)); refine blk_far ?_ NB232_271.out _; (with_reducible repeat (first | refine blk_drewN ?_ _ | refine blk_drew ?_ | refine blk_alloc ?_ _)); refine blk_far ?_ NB232_271.out _; (with_reducible repeat (first | refine blk_drewN ?_ _ | refine blk_drew ?_ | refine blk_alloc ?_ _)); exact BK232.out) hb); have n13_ := Aside0.mk (blk_below (g := gb271) (o := .cells #[.slice Ao27 t253.length co27, .slice Ao30 t256.length co30, .slice Ao31 t259.length co31, .slice Ao32 t262.length co32, .slice Ao33 t265.length co33, .slice Ao34 t268.length co34] 38 (0, 0)) (by (with_reducible repeat (first | refine blk_drewN ?_ _ | refine blk_drew ?_ | refine blk_alloc ?_ _)); refine blk_put (cs := #[.slice Ao27 t253.length co27, .slice Ao30 t256.length co30, .slice Ao31 t259.length co31, .slice Ao32 t262.length co32, .slice Ao33 t265.length co33, .slice none 0 0]) ?_ 5 _ rfl; (with_reducible repeat (first | refine blk_drewN ?_ _ | refine blk_drew ?_ | refine blk_alloc ?_ _)); refine blk_put (cs := #[.slice Ao27 t253.length co27, .slice Ao30 t256.length co30, .slice Ao31 t259.length co31, .slice Ao32 t262.length co32, .slice none 0 0, .slice none 0 0]) ?_ 4 _ rfl; (with_reducible repeat (first | refine blk_drewN ?_ _ | refine blk_drew ?_ | refine blk_alloc ?_ _)); refine blk_put (cs := #[.slice Ao27 t253.length co27, .slice Ao30 t256.length co30, .slice Ao31 t259.length co31, .slice none 0 0, .slice none 0 0, .slice none 0 0]) ?_ 3 _ rfl; (with_reducible repeat (first | refine blk_drewN ?_ _ | refine blk_drew ?_ | refine blk_alloc ?_ _)); refine blk_put (cs := #[.slice Ao27 t253.length co27, .slice Ao30 t256.length co30, .slice none 0 0, .slice none 0 0, .slice none 0 0, .slice none 0 0]) ?_ 2 _ rfl; (with_reducible repeat (first | refine blk_drewN ?_ _ | refine blk_drew ?_ | refine blk_alloc ?_ _)); refine blk_put (cs := #[.slice Ao27 t253.length co27, .slice none 0 0, .slice none 0 0, .slice none 0 0, .slice none 0 0, .slice none 0 0]) ?_ 1 _ rfl; (with_reducible repeat (first | refine blk_drewN ?_ _ | refine blk_drew ?_ | refine blk_alloc ?_ _)); refine blk_put (cs := #[.slice none 0 0, .slice none 0 0, .slice none 0 0, .slice none 0 0, .slice none 0 0, .slice none 0 0]) ?_ 0 _ rfl; (with_reducible repeat (first | refine blk_drewN ?_ _ | refine blk_drew ?_ | refine blk_alloc ?_ _)); exact BK271.out) hb); have n14_ := Aside0.mk (below_step (by repeat (first | (with_reducible first | exact HB.out | apply below_alloc | apply pw_below_drewN | apply below_drew1 | refine below_set ?_ GE232.out | refine below_set ?_ GE271.out) | exact HB.out)) hb); clear HO236; clear HO239; clear HO242; clear HO245; clear HO248; clear HO251; clear HO255; clear HO258; clear HO261; clear HO264; clear HO267; clear HO270; clear BK232; clear BK271; clear HB; have HO236 := n0_; have HO239 := n1_; have HO242 := n2_; have HO245 := n3_; have HO248 := n4_; have HO251 := n5_; have HO255 := n6_; have HO258 := n7_; have HO261 := n8_; have HO264 := n9_; have HO267 := n10_; have HO270 := n11_; have BK232 := n12_; have BK271 := n13_; have HB := n14_; clear n0_ n1_ n2_ n3_ n4_ n5_ n6_ n7_ n8_ n9_ n10_ n11_ n12_ n13_ n14_; (try clear hb); (try clear hb2); (try clear hk); (try clear hi)))
   go_ret
   exact ⟨by first | rfl | (simp [errW_none, errW_some] <;> rfl) | (simp [*, errW_none, errW_some] <;> rfl), by repeat (first | (with_reducible first | exact HB.out | apply below_alloc | apply pw_below_drewN | apply below_drew1 | refine below_set ?_ GE232.out | refine below_set ?_ GE271.out) | exact HB.out)⟩
  ·rw [if_neg c11] at H
   have c11b0 : (t272 != t252) = false := by simpa using c11
   (try (have c11b1 : decide (t272 = t252) = true := by simpa using c11))
   (try (have c11b2 : (t272 == t252) = true := by simpa using c11))
   clear c11
   replace H := Option.bind_eq_some_iff.mp H
   obtain ⟨⟨t273, t276, t279, t282, t285, t288⟩, A360, H⟩ := H
   replace H : ((laws_eqNet.f k t253 t256 t259 t262 t265 t268 t273 t276 t279 t282 t285 t288).bind fun t291 => (if t291 = true then (some true) else (some false))) = some r := H
   have A36 := Aside0.mk A360
   clear A360
   replace H := Option.bind_eq_some_iff.mp H
   obtain ⟨t291, A370, H⟩ := H
   replace H : (if t291 = true then (some true) else (some false)) = some r := H
   have A37 := Aside0.mk A370
   clear A370
   by_cases c38 : t291 = true
   ·subst c38
    have H1 : (some true) = some r := by rw [if_pos rfl] at H; exact H
    clear H
    have H := H1
    clear H1
    obtain rfl := Option.some.inj H
    go_enter Try.func4, Try.ntmps4
    try go_wp2_with (first | ((with_reducible refine gate_dst (N := 1) rfl ?_); refine box_event ?hg (N := 1) ?hd (cs := #[.slice A0_0 l0_0.length c0_0, .slice A0_1 l0_1.length c0_1, .slice A0_2 l0_2.length c0_2, .slice A0_3 l0_3.length c0_3, .slice A0_4 l0_4.length c0_4, .slice A0_5 l0_5.length c0_5]) (t := 28) ?hr ?_; (case hd => rfl); (case hg => rfl); (case hr => first | (go_simp; done) | (go_simp; rfl)); intro gb232 hg w39 hbox hb; have n0_ := Aside0.mk (below_step (by repeat (first | (with_reducible first | exact HB.out | apply below_alloc | apply pw_below_drewN | apply below_drew1) | exact HB.out)) hb); have n1_ := Aside0.mk (hbox); have n2_ := Aside0.mk ((by rw [hg]; exact (below_size (by repeat (first | (with_reducible first | exact HB.out | apply below_alloc | apply pw_below_drewN | apply below_drew1) | exact HB.out))) : w.heap.size ≤ gb232)); have n3_ := Aside0.mk ((by rw [hg]; exact (below_size (by repeat (first | (with_reducible first | exact HB.out | apply below_alloc | apply pw_below_drewN | apply below_drew1) | exact HB.out))) : w.heap.size ≤ gb232)); clear HB; have HB := n0_; have BK232 := n1_; have GW232 := n2_; have GE232 := n3_; clear n0_ n1_ n2_ n3_; clear hb hbox hg; have hcz40_0 : w39.cell? ⟨gb232, 0, none⟩ = some (.slice A0_0 l0_0.length c0_0) := (blk_cell BK232.out 0).trans rfl; have hcz40_1 : w39.cell? ⟨gb232, 1, none⟩ = some (.slice A0_1 l0_1.length c0_1) := (blk_cell BK232.out 1).trans rfl; have hcz40_2 : w39.cell? ⟨gb232, 2, none⟩ = some (.slice A0_2 l0_2.length c0_2) := (blk_cell BK232.out 2).trans rfl; have hcz40_3 : w39.cell? ⟨gb232, 3, none⟩ = some (.slice A0_3 l0_3.length c0_3) := (blk_cell BK232.out 3).trans rfl; have hcz40_4 : w39.cell? ⟨gb232, 4, none⟩ = some (.slice A0_4 l0_4.length c0_4) := (blk_cell BK232.out 4).trans rfl; have hcz40_5 : w39.cell? ⟨gb232, 5, none⟩ = some (.slice A0_5 l0_5.length c0_5) := (blk_cell BK232.out 5).trans rfl; have hfz40_0 := blk_frozen BK232.out 0; have hfz40_1 := blk_frozen BK232.out 1; have hfz40_2 := blk_frozen BK232.out 2; have hfz40_3 := blk_frozen BK232.out 3; have hfz40_4 := blk_frozen BK232.out 4; have hfz40_5 := blk_frozen BK232.out 5) | ((with_reducible refine gate_callee (f := 8) rfl ?_); refine goesL_ (some 9) rfl rfl Try.func8 (by kernel_rfl) rfl #[.agg #[.slice A0_0 l0_0.length c0_0, .slice A0_1 l0_1.length c0_1, .slice A0_2 l0_2.length c0_2, .slice A0_3 l0_3.length c0_3, .slice A0_4 l0_4.length c0_4, .slice A0_5 l0_5.length c0_5], .int .i64 1048576] rfl (by (try simp only [List.map_toArray, List.map_cons, List.map_nil]); first | done | rfl | (simp only [List.length_drop, List.length_take]; rfl)) ?_; (with_reducible refine (laws_szNet.calls k _ _ l0_0 _ _ l0_1 _ _ l0_2 _ _ l0_3 _ _ l0_4 _ _ l0_5 1048576 t233 _ ?side1 ?side2 ?side3 ?side4 ?side5 ?side6 ?side7 ?side8 ?side9 ?side10 ?side11 ?side12 A2.out).mono ?_); (case side1 => repeat (first | exact (Kd.C_below HR0_0.out HB.out) | (with_reducible refine Kd.C_alloc ?_ _) | (with_reducible refine Kd.C_drewN ?_ _) | (with_reducible refine Kd.C_drew ?_))); (case side2 => exact HC0_0.out); (case side3 => repeat (first | exact (Kd.C_below HR0_1.out HB.out) | (with_reducible refine Kd.C_alloc ?_ _) | (with_reducible refine Kd.C_drewN ?_ _) | (with_reducible refine Kd.C_drew ?_))); (case side4 => exact HC0_1.out); (case side5 => repeat (first | exact (Kd.C_below HR0_2.out HB.out) | (with_reducible refine Kd.C_alloc ?_ _) | (with_reducible refine Kd.C_drewN ?_ _) | (with_reducible refine Kd.C_drew ?_))); (case side6 => exact HC0_2.out); (case side7 => repeat (first | exact (Kd.C_below HR0_3.out HB.out) | (with_reducible refine Kd.C_alloc ?_ _) | (with_reducible refine Kd.C_drewN ?_ _) | (with_reducible refine Kd.C_drew ?_))); (case side8 => exact HC0_3.out); (case side9 => repeat (first | exact (Kd.C_below HR0_4.out HB.out) | (with_reducible refine Kd.C_alloc ?_ _) | (with_reducible refine Kd.C_drewN ?_ _) | (with_reducible refine Kd.C_drew ?_))); (case side10 => exact HC0_4.out); (case side11 => repeat (first | exact (Kd.C_below HR0_5.out HB.out) | (with_reducible refine Kd.C_alloc ?_ _) | (with_reducible refine Kd.C_drewN ?_ _) | (with_reducible refine Kd.C_drew ?_))); (case side12 => exact HC0_5.out); rintro e w41 ⟨rfl, hb⟩; refine ⟨_, rfl, ?_⟩; have n0_ := Aside0.mk (blk_below (g := gb232) (o := .cells #[.slice A0_0 l0_0.length c0_0, .slice A0_1 l0_1.length c0_1, .slice A0_2 l0_2.length c0_2, .slice A0_3 l0_3.length c0_3, .slice A0_4 l0_4.length c0_4, .slice A0_5 l0_5.length c0_5] 28 (0, 0)) (by (with_reducible repeat (first | refine blk_drewN ?_ _ | refine blk_drew ?_ | refine blk_alloc ?_ _)); exact BK232.out) hb); have n1_ := Aside0.mk (below_step (by repeat (first | (with_reducible first | exact HB.out | apply below_alloc | apply pw_below_drewN | apply below_drew1 | refine below_set ?_ GE232.out) | exact HB.out)) hb); clear BK232; clear HB; have BK232 := n0_; have HB := n1_; clear n0_ n1_; (try clear hb); (try clear hb2); (try clear hk); (try clear hi); have hcz42_0 : w41.cell? ⟨gb232, 0, none⟩ = some (.slice A0_0 l0_0.length c0_0) := (blk_cell BK232.out 0).trans rfl; have hcz42_1 : w41.cell? ⟨gb232, 1, none⟩ = some (.slice A0_1 l0_1.length c0_1) := (blk_cell BK232.out 1).trans rfl; have hcz42_2 : w41.cell? ⟨gb232, 2, none⟩ = some (.slice A0_2 l0_2.length c0_2) := (blk_cell BK232.out 2).trans rfl; have hcz42_3 : w41.cell? ⟨gb232, 3, none⟩ = some (.slice A0_3 l0_3.length c0_3) := (blk_cell BK232.out 3).trans rfl; have hcz42_4 : w41.cell? ⟨gb232, 4, none⟩ = some (.slice A0_4 l0_4.length c0_4) := (blk_cell BK232.out 4).trans rfl; have hcz42_5 : w41.cell? ⟨gb232, 5, none⟩ = some (.slice A0_5 l0_5.length c0_5) := (blk_cell BK232.out 5).trans rfl; have hfz42_0 := blk_frozen BK232.out 0; have hfz42_1 := blk_frozen BK232.out 1; have hfz42_2 := blk_frozen BK232.out 2; have hfz42_3 := blk_frozen BK232.out 3; have hfz42_4 := blk_frozen BK232.out 4; have hfz42_5 := blk_frozen BK232.out 5) | ((with_reducible refine gate_callee (f := 10) rfl ?_); refine goesL_ (some 13) rfl rfl Try.func10 (by kernel_rfl) rfl #[.agg #[.slice A0_0 l0_0.length c0_0, .slice A0_1 l0_1.length c0_1, .slice A0_2 l0_2.length c0_2, .slice A0_3 l0_3.length c0_3, .slice A0_4 l0_4.length c0_4, .slice A0_5 l0_5.length c0_5]] rfl (by (try simp only [List.map_toArray, List.map_cons, List.map_nil]); first | done | rfl | (simp only [List.length_drop, List.length_take]; rfl)) ?_; (with_reducible refine (laws_toNet.calls k _ _ l0_0 _ _ l0_1 _ _ l0_2 _ _ l0_3 _ _ l0_4 _ _ l0_5 t234 t237 t240 t243 t246 t249 _ ?side1 ?side2 ?side3 ?side4 ?side5 ?side6 ?side7 ?side8 ?side9 ?side10 ?side11 ?side12 A7.out).mono ?_); (case side1 => repeat (first | exact (Kd.C_below HR0_0.out HB.out) | (with_reducible refine Kd.C_alloc ?_ _) | (with_reducible refine Kd.C_drewN ?_ _) | (with_reducible refine Kd.C_drew ?_))); (case side2 => exact HC0_0.out); (case side3 => repeat (first | exact (Kd.C_below HR0_1.out HB.out) | (with_reducible refine Kd.C_alloc ?_ _) | (with_reducible refine Kd.C_drewN ?_ _) | (with_reducible refine Kd.C_drew ?_))); (case side4 => exact HC0_1.out); (case side5 => repeat (first | exact (Kd.C_below HR0_2.out HB.out) | (with_reducible refine Kd.C_alloc ?_ _) | (with_reducible refine Kd.C_drewN ?_ _) | (with_reducible refine Kd.C_drew ?_))); (case side6 => exact HC0_2.out); (case side7 => repeat (first | exact (Kd.C_below HR0_3.out HB.out) | (with_reducible refine Kd.C_alloc ?_ _) | (with_reducible refine Kd.C_drewN ?_ _) | (with_reducible refine Kd.C_drew ?_))); (case side8 => exact HC0_3.out); (case side9 => repeat (first | exact (Kd.C_below HR0_4.out HB.out) | (with_reducible refine Kd.C_alloc ?_ _) | (with_reducible refine Kd.C_drewN ?_ _) | (with_reducible refine Kd.C_drew ?_))); (case side10 => exact HC0_4.out); (case side11 => repeat (first | exact (Kd.C_below HR0_5.out HB.out) | (with_reducible refine Kd.C_alloc ?_ _) | (with_reducible refine Kd.C_drewN ?_ _) | (with_reducible refine Kd.C_drew ?_))); (case side12 => exact HC0_5.out); rintro e w43 ⟨v235, v238, v241, v244, v247, v250, rfl, ho0, ho1, ho2, ho3, ho4, ho5, hb⟩; refine ⟨_, rfl, ?_⟩; have n0_ := Aside0.mk (Kd.R_lower ho0 (below_size (by repeat (first | (with_reducible first | exact HB.out | apply below_alloc | apply pw_below_drewN | apply below_drew1 | refine below_set ?_ GE232.out) | exact HB.out)))); have n1_ := Aside0.mk (Kd.R_lower ho1 (below_size (by repeat (first | (with_reducible first | exact HB.out | apply below_alloc | apply pw_below_drewN | apply below_drew1 | refine below_set ?_ GE232.out) | exact HB.out)))); have n2_ := Aside0.mk (Kd.R_lower ho2 (below_size (by repeat (first | (with_reducible first | exact HB.out | apply below_alloc | apply pw_below_drewN | apply below_drew1 | refine below_set ?_ GE232.out) | exact HB.out)))); have n3_ := Aside0.mk (Kd.R_lower ho3 (below_size (by repeat (first | (with_reducible first | exact HB.out | apply below_alloc | apply pw_below_drewN | apply below_drew1 | refine below_set ?_ GE232.out) | exact HB.out)))); have n4_ := Aside0.mk (Kd.R_lower ho4 (below_size (by repeat (first | (with_reducible first | exact HB.out | apply below_alloc | apply pw_below_drewN | apply below_drew1 | refine below_set ?_ GE232.out) | exact HB.out)))); have n5_ := Aside0.mk (Kd.R_lower ho5 (below_size (by repeat (first | (with_reducible first | exact HB.out | apply below_alloc | apply pw_below_drewN | apply below_drew1 | refine below_set ?_ GE232.out) | exact HB.out)))); have n6_ := Aside0.mk (blk_below (g := gb232) (o := .cells #[.slice A0_0 l0_0.length c0_0, .slice A0_1 l0_1.length c0_1, .slice A0_2 l0_2.length c0_2, .slice A0_3 l0_3.length c0_3, .slice A0_4 l0_4.length c0_4, .slice A0_5 l0_5.length c0_5] 28 (0, 0)) (by (with_reducible repeat (first | refine blk_drewN ?_ _ | refine blk_drew ?_ | refine blk_alloc ?_ _)); exact BK232.out) hb); have n7_ := Aside0.mk (below_step (by repeat (first | (with_reducible first | exact HB.out | apply below_alloc | apply pw_below_drewN | apply below_drew1 | refine below_set ?_ GE232.out) | exact HB.out)) hb); clear BK232; clear HB; have HO236 := n0_; have HO239 := n1_; have HO242 := n2_; have HO245 := n3_; have HO248 := n4_; have HO251 := n5_; have BK232 := n6_; have HB := n7_; clear n0_ n1_ n2_ n3_ n4_ n5_ n6_ n7_; (try clear hb); (try clear hb2); (try clear hk); (try clear hi); (try clear ho0); (try clear ho1); (try clear ho2); (try clear ho3); (try clear ho4); (try clear ho5); obtain ⟨Ao44, co44, eo44⟩ := Kd.R_slice HO236.out; subst eo44; obtain ⟨Ao45, co45, eo45⟩ := Kd.R_slice HO239.out; subst eo45; obtain ⟨Ao46, co46, eo46⟩ := Kd.R_slice HO242.out; subst eo46; obtain ⟨Ao47, co47, eo47⟩ := Kd.R_slice HO245.out; subst eo47; obtain ⟨Ao48, co48, eo48⟩ := Kd.R_slice HO248.out; subst eo48; obtain ⟨Ao49, co49, eo49⟩ := Kd.R_slice HO251.out; subst eo49) | ((with_reducible refine gate_callee (f := 23) rfl ?_); refine goesL_ (some 14) rfl rfl Try.func23 (by kernel_rfl) rfl #[.agg #[.slice Ao44 t234.length co44, .slice Ao45 t237.length co45, .slice Ao46 t240.length co46, .slice Ao47 t243.length co47, .slice Ao48 t246.length co48, .slice Ao49 t249.length co49]] rfl (by (try simp only [List.map_toArray, List.map_cons, List.map_nil]); first | done | rfl | (simp only [List.length_drop, List.length_take]; rfl)) ?_; (with_reducible refine (spec_NetOK.calls k _ _ t234 _ _ t237 _ _ t240 _ _ t243 _ _ t246 _ _ t249 t252 _ ?side1 ?side2 ?side3 ?side4 ?side5 ?side6 ?side7 ?side8 ?side9 ?side10 ?side11 ?side12 A8.out).mono ?_); (case side1 => repeat (first | exact (Kd.R_reads' HO236.out).2.2 | (with_reducible refine Kd.C_alloc ?_ _) | (with_reducible refine Kd.C_drewN ?_ _) | (with_reducible refine Kd.C_drew ?_))); (case side2 => exact (Kd.R_reads' HO236.out).2.1); (case side3 => repeat (first | exact (Kd.R_reads' HO239.out).2.2 | (with_reducible refine Kd.C_alloc ?_ _) | (with_reducible refine Kd.C_drewN ?_ _) | (with_reducible refine Kd.C_drew ?_))); (case side4 => exact (Kd.R_reads' HO239.out).2.1); (case side5 => repeat (first | exact (Kd.R_reads' HO242.out).2.2 | (with_reducible refine Kd.C_alloc ?_ _) | (with_reducible refine Kd.C_drewN ?_ _) | (with_reducible refine Kd.C_drew ?_))); (case side6 => exact (Kd.R_reads' HO242.out).2.1); (case side7 => repeat (first | exact (Kd.R_reads' HO245.out).2.2 | (with_reducible refine Kd.C_alloc ?_ _) | (with_reducible refine Kd.C_drewN ?_ _) | (with_reducible refine Kd.C_drew ?_))); (case side8 => exact (Kd.R_reads' HO245.out).2.1); (case side9 => repeat (first | exact (Kd.R_reads' HO248.out).2.2 | (with_reducible refine Kd.C_alloc ?_ _) | (with_reducible refine Kd.C_drewN ?_ _) | (with_reducible refine Kd.C_drew ?_))); (case side10 => exact (Kd.R_reads' HO248.out).2.1); (case side11 => repeat (first | exact (Kd.R_reads' HO251.out).2.2 | (with_reducible refine Kd.C_alloc ?_ _) | (with_reducible refine Kd.C_drewN ?_ _) | (with_reducible refine Kd.C_drew ?_))); (case side12 => exact (Kd.R_reads' HO251.out).2.1); rintro e w50 ⟨rfl, hb⟩; refine ⟨_, rfl, ?_⟩; have n0_ := Aside0.mk (Kd.R_below (by (with_reducible repeat (first | apply Kd.R_alloc | apply Kd.R_drewN | apply Kd.R_drew)); exact HO236.out) hb); have n1_ := Aside0.mk (Kd.R_below (by (with_reducible repeat (first | apply Kd.R_alloc | apply Kd.R_drewN | apply Kd.R_drew)); exact HO239.out) hb); have n2_ := Aside0.mk (Kd.R_below (by (with_reducible repeat (first | apply Kd.R_alloc | apply Kd.R_drewN | apply Kd.R_drew)); exact HO242.out) hb); have n3_ := Aside0.mk (Kd.R_below (by (with_reducible repeat (first | apply Kd.R_alloc | apply Kd.R_drewN | apply Kd.R_drew)); exact HO245.out) hb); have n4_ := Aside0.mk (Kd.R_below (by (with_reducible repeat (first | apply Kd.R_alloc | apply Kd.R_drewN | apply Kd.R_drew)); exact HO248.out) hb); have n5_ := Aside0.mk (Kd.R_below (by (with_reducible repeat (first | apply Kd.R_alloc | apply Kd.R_drewN | apply Kd.R_drew)); exact HO251.out) hb); have n6_ := Aside0.mk (blk_below (g := gb232) (o := .cells #[.slice A0_0 l0_0.length c0_0, .slice A0_1 l0_1.length c0_1, .slice A0_2 l0_2.length c0_2, .slice A0_3 l0_3.length c0_3, .slice A0_4 l0_4.length c0_4, .slice A0_5 l0_5.length c0_5] 28 (0, 0)) (by (with_reducible repeat (first | refine blk_drewN ?_ _ | refine blk_drew ?_ | refine blk_alloc ?_ _)); exact BK232.out) hb); have n7_ := Aside0.mk (below_step (by repeat (first | (with_reducible first | exact HB.out | apply below_alloc | apply pw_below_drewN | apply below_drew1 | refine below_set ?_ GE232.out) | exact HB.out)) hb); clear HO236; clear HO239; clear HO242; clear HO245; clear HO248; clear HO251; clear BK232; clear HB; have HO236 := n0_; have HO239 := n1_; have HO242 := n2_; have HO245 := n3_; have HO248 := n4_; have HO251 := n5_; have BK232 := n6_; have HB := n7_; clear n0_ n1_ n2_ n3_ n4_ n5_ n6_ n7_; (try clear hb); (try clear hb2); (try clear hk); (try clear hi); have hcz51_0 : w50.cell? ⟨gb232, 0, none⟩ = some (.slice A0_0 l0_0.length c0_0) := (blk_cell BK232.out 0).trans rfl; have hcz51_1 : w50.cell? ⟨gb232, 1, none⟩ = some (.slice A0_1 l0_1.length c0_1) := (blk_cell BK232.out 1).trans rfl; have hcz51_2 : w50.cell? ⟨gb232, 2, none⟩ = some (.slice A0_2 l0_2.length c0_2) := (blk_cell BK232.out 2).trans rfl; have hcz51_3 : w50.cell? ⟨gb232, 3, none⟩ = some (.slice A0_3 l0_3.length c0_3) := (blk_cell BK232.out 3).trans rfl; have hcz51_4 : w50.cell? ⟨gb232, 4, none⟩ = some (.slice A0_4 l0_4.length c0_4) := (blk_cell BK232.out 4).trans rfl; have hcz51_5 : w50.cell? ⟨gb232, 5, none⟩ = some (.slice A0_5 l0_5.length c0_5) := (blk_cell BK232.out 5).trans rfl; have hfz51_0 := blk_frozen BK232.out 0; have hfz51_1 := blk_frozen BK232.out 1; have hfz51_2 := blk_frozen BK232.out 2; have hfz51_3 := blk_frozen BK232.out 3; have hfz51_4 := blk_frozen BK232.out 4; have hfz51_5 := blk_frozen BK232.out 5) | ((with_reducible refine gate_callee (f := 10) rfl ?_); refine goesL_ (some 16) rfl rfl Try.func10 (by kernel_rfl) rfl #[.agg #[.slice A0_0 l0_0.length c0_0, .slice A0_1 l0_1.length c0_1, .slice A0_2 l0_2.length c0_2, .slice A0_3 l0_3.length c0_3, .slice A0_4 l0_4.length c0_4, .slice A0_5 l0_5.length c0_5]] rfl (by (try simp only [List.map_toArray, List.map_cons, List.map_nil]); first | done | rfl | (simp only [List.length_drop, List.length_take]; rfl)) ?_; (with_reducible refine (laws_toNet.calls k _ _ l0_0 _ _ l0_1 _ _ l0_2 _ _ l0_3 _ _ l0_4 _ _ l0_5 t253 t256 t259 t262 t265 t268 _ ?side1 ?side2 ?side3 ?side4 ?side5 ?side6 ?side7 ?side8 ?side9 ?side10 ?side11 ?side12 A9.out).mono ?_); (case side1 => repeat (first | exact (Kd.C_below HR0_0.out HB.out) | (with_reducible refine Kd.C_alloc ?_ _) | (with_reducible refine Kd.C_drewN ?_ _) | (with_reducible refine Kd.C_drew ?_))); (case side2 => exact HC0_0.out); (case side3 => repeat (first | exact (Kd.C_below HR0_1.out HB.out) | (with_reducible refine Kd.C_alloc ?_ _) | (with_reducible refine Kd.C_drewN ?_ _) | (with_reducible refine Kd.C_drew ?_))); (case side4 => exact HC0_1.out); (case side5 => repeat (first | exact (Kd.C_below HR0_2.out HB.out) | (with_reducible refine Kd.C_alloc ?_ _) | (with_reducible refine Kd.C_drewN ?_ _) | (with_reducible refine Kd.C_drew ?_))); (case side6 => exact HC0_2.out); (case side7 => repeat (first | exact (Kd.C_below HR0_3.out HB.out) | (with_reducible refine Kd.C_alloc ?_ _) | (with_reducible refine Kd.C_drewN ?_ _) | (with_reducible refine Kd.C_drew ?_))); (case side8 => exact HC0_3.out); (case side9 => repeat (first | exact (Kd.C_below HR0_4.out HB.out) | (with_reducible refine Kd.C_alloc ?_ _) | (with_reducible refine Kd.C_drewN ?_ _) | (with_reducible refine Kd.C_drew ?_))); (case side10 => exact HC0_4.out); (case side11 => repeat (first | exact (Kd.C_below HR0_5.out HB.out) | (with_reducible refine Kd.C_alloc ?_ _) | (with_reducible refine Kd.C_drewN ?_ _) | (with_reducible refine Kd.C_drew ?_))); (case side12 => exact HC0_5.out); rintro e w52 ⟨v254, v257, v260, v263, v266, v269, rfl, ho0, ho1, ho2, ho3, ho4, ho5, hb⟩; refine ⟨_, rfl, ?_⟩; have n0_ := Aside0.mk (Kd.R_elder' (by (with_reducible repeat (first | apply Kd.R_alloc | apply Kd.R_drewN | apply Kd.R_drew)); exact HO236.out) (Kd.R_base ho0) hb); have n1_ := Aside0.mk (Kd.R_elder' (by (with_reducible repeat (first | apply Kd.R_alloc | apply Kd.R_drewN | apply Kd.R_drew)); exact HO239.out) (Kd.R_base ho1) hb); have n2_ := Aside0.mk (Kd.R_mono (Kd.R_told (Kd.R_told (Kd.R_old (by (with_reducible repeat (first | apply Kd.R_alloc | apply Kd.R_drewN | apply Kd.R_drew)); exact HO242.out) hb) (Kd.R_base ho2)) (Kd.R_base ho3)) (fun _ h_ => h_.1)); have n3_ := Aside0.mk (Kd.R_mono (Kd.R_told (Kd.R_told (Kd.R_old (by (with_reducible repeat (first | apply Kd.R_alloc | apply Kd.R_drewN | apply Kd.R_drew)); exact HO245.out) hb) (Kd.R_base ho2)) (Kd.R_base ho3)) (fun _ h_ => h_.1)); have n4_ := Aside0.mk (Kd.R_elder' (by (with_reducible repeat (first | apply Kd.R_alloc | apply Kd.R_drewN | apply Kd.R_drew)); exact HO248.out) (Kd.R_base ho4) hb); have n5_ := Aside0.mk (Kd.R_elder' (by (with_reducible repeat (first | apply Kd.R_alloc | apply Kd.R_drewN | apply Kd.R_drew)); exact HO251.out) (Kd.R_base ho5) hb); have n6_ := Aside0.mk (Kd.R_lower (Kd.R_new' ho0 (Kd.R_lt (by (with_reducible repeat (first | apply Kd.R_alloc | apply Kd.R_drewN | apply Kd.R_drew)); exact HO236.out))) (below_size (by repeat (first | (with_reducible first | exact HB.out | apply below_alloc | apply pw_below_drewN | apply below_drew1 | refine below_set ?_ GE232.out) | exact HB.out)))); have n7_ := Aside0.mk (Kd.R_lower (Kd.R_new' ho1 (Kd.R_lt (by (with_reducible repeat (first | apply Kd.R_alloc | apply Kd.R_drewN | apply Kd.R_drew)); exact HO239.out))) (below_size (by repeat (first | (with_reducible first | exact HB.out | apply below_alloc | apply pw_below_drewN | apply below_drew1 | refine below_set ?_ GE232.out) | exact HB.out)))); have n8_ := Aside0.mk (Kd.R_lower (Kd.R_new' (Kd.R_new' ho2 (Kd.R_lt (by (with_reducible repeat (first | apply Kd.R_alloc | apply Kd.R_drewN | apply Kd.R_drew)); exact HO242.out))) (Kd.R_lt (by (with_reducible repeat (first | apply Kd.R_alloc | apply Kd.R_drewN | apply Kd.R_drew)); exact HO245.out))) (below_size (by repeat (first | (with_reducible first | exact HB.out | apply below_alloc | apply pw_below_drewN | apply below_drew1 | refine below_set ?_ GE232.out) | exact HB.out)))); have n9_ := Aside0.mk (Kd.R_lower (Kd.R_new' (Kd.R_new' ho3 (Kd.R_lt (by (with_reducible repeat (first | apply Kd.R_alloc | apply Kd.R_drewN | apply Kd.R_drew)); exact HO242.out))) (Kd.R_lt (by (with_reducible repeat (first | apply Kd.R_alloc | apply Kd.R_drewN | apply Kd.R_drew)); exact HO245.out))) (below_size (by repeat (first | (with_reducible first | exact HB.out | apply below_alloc | apply pw_below_drewN | apply below_drew1 | refine below_set ?_ GE232.out) | exact HB.out)))); have n10_ := Aside0.mk (Kd.R_lower (Kd.R_new' ho4 (Kd.R_lt (by (with_reducible repeat (first | apply Kd.R_alloc | apply Kd.R_drewN | apply Kd.R_drew)); exact HO248.out))) (below_size (by repeat (first | (with_reducible first | exact HB.out | apply below_alloc | apply pw_below_drewN | apply below_drew1 | refine below_set ?_ GE232.out) | exact HB.out)))); have n11_ := Aside0.mk (Kd.R_lower (Kd.R_new' ho5 (Kd.R_lt (by (with_reducible repeat (first | apply Kd.R_alloc | apply Kd.R_drewN | apply Kd.R_drew)); exact HO251.out))) (below_size (by repeat (first | (with_reducible first | exact HB.out | apply below_alloc | apply pw_below_drewN | apply below_drew1 | refine below_set ?_ GE232.out) | exact HB.out)))); have n12_ := Aside0.mk (blk_below (g := gb232) (o := .cells #[.slice A0_0 l0_0.length c0_0, .slice A0_1 l0_1.length c0_1, .slice A0_2 l0_2.length c0_2, .slice A0_3 l0_3.length c0_3, .slice A0_4 l0_4.length c0_4, .slice A0_5 l0_5.length c0_5] 28 (0, 0)) (by (with_reducible repeat (first | refine blk_drewN ?_ _ | refine blk_drew ?_ | refine blk_alloc ?_ _)); exact BK232.out) hb); have n13_ := Aside0.mk (below_step (by repeat (first | (with_reducible first | exact HB.out | apply below_alloc | apply pw_below_drewN | apply below_drew1 | refine below_set ?_ GE232.out) | exact HB.out)) hb); clear HO236; clear HO239; clear HO242; clear HO245; clear HO248; clear HO251; clear BK232; clear HB; have HO236 := n0_; have HO239 := n1_; have HO242 := n2_; have HO245 := n3_; have HO248 := n4_; have HO251 := n5_; have HO255 := n6_; have HO258 := n7_; have HO261 := n8_; have HO264 := n9_; have HO267 := n10_; have HO270 := n11_; have BK232 := n12_; have HB := n13_; clear n0_ n1_ n2_ n3_ n4_ n5_ n6_ n7_ n8_ n9_ n10_ n11_ n12_ n13_; (try clear hb); (try clear hb2); (try clear hk); (try clear hi); (try clear ho0); (try clear ho1); (try clear ho2); (try clear ho3); (try clear ho4); (try clear ho5)) | ((with_reducible refine gate_dst (N := 5) rfl ?_); refine box_event ?hg (N := 5) ?hd (cs := #[.slice none 0 0, .slice none 0 0, .slice none 0 0, .slice none 0 0, .slice none 0 0, .slice none 0 0]) (t := 38) ?hr ?_; (case hd => rfl); (case hg => rfl); (case hr => first | (go_simp; done) | (go_simp; rfl)); intro gb271 hg w53 hbox hb; have n0_ := Aside0.mk (Kd.R_below (by (with_reducible repeat (first | apply Kd.R_alloc | apply Kd.R_drewN | apply Kd.R_drew)); exact HO236.out) hb); have n1_ := Aside0.mk (Kd.R_below (by (with_reducible repeat (first | apply Kd.R_alloc | apply Kd.R_drewN | apply Kd.R_drew)); exact HO239.out) hb); have n2_ := Aside0.mk (Kd.R_below (by (with_reducible repeat (first | apply Kd.R_alloc | apply Kd.R_drewN | apply Kd.R_drew)); exact HO242.out) hb); have n3_ := Aside0.mk (Kd.R_below (by (with_reducible repeat (first | apply Kd.R_alloc | apply Kd.R_drewN | apply Kd.R_drew)); exact HO245.out) hb); have n4_ := Aside0.mk (Kd.R_below (by (with_reducible repeat (first | apply Kd.R_alloc | apply Kd.R_drewN | apply Kd.R_drew)); exact HO248.out) hb); have n5_ := Aside0.mk (Kd.R_below (by (with_reducible repeat (first | apply Kd.R_alloc | apply Kd.R_drewN | apply Kd.R_drew)); exact HO251.out) hb); have n6_ := Aside0.mk (Kd.R_below (by (with_reducible repeat (first | apply Kd.R_alloc | apply Kd.R_drewN | apply Kd.R_drew)); exact HO255.out) hb); have n7_ := Aside0.mk (Kd.R_below (by (with_reducible repeat (first | apply Kd.R_alloc | apply Kd.R_drewN | apply Kd.R_drew)); exact HO258.out) hb); have n8_ := Aside0.mk (Kd.R_below (by (with_reducible repeat (first | apply Kd.R_alloc | apply Kd.R_drewN | apply Kd.R_drew)); exact HO261.out) hb); have n9_ := Aside0.mk (Kd.R_below (by (with_reducible repeat (first | apply Kd.R_alloc | apply Kd.R_drewN | apply Kd.R_drew)); exact HO264.out) hb); have n10_ := Aside0.mk (Kd.R_below (by (with_reducible repeat (first | apply Kd.R_alloc | apply Kd.R_drewN | apply Kd.R_drew)); exact HO267.out) hb); have n11_ := Aside0.mk (Kd.R_below (by (with_reducible repeat (first | apply Kd.R_alloc | apply Kd.R_drewN | apply Kd.R_drew)); exact HO270.out) hb); have n12_ := Aside0.mk (blk_below (g := gb232) (o := .cells #[.slice A0_0 l0_0.length c0_0, .slice A0_1 l0_1.length c0_1, .slice A0_2 l0_2.length c0_2, .slice A0_3 l0_3.length c0_3, .slice A0_4 l0_4.length c0_4, .slice A0_5 l0_5.length c0_5] 28 (0, 0)) (by (with_reducible repeat (first | refine blk_drewN ?_ _ | refine blk_drew ?_ | refine blk_alloc ?_ _)); exact BK232.out) hb); have n13_ := Aside0.mk (below_step (by repeat (first | (with_reducible first | exact HB.out | apply below_alloc | apply pw_below_drewN | apply below_drew1 | refine below_set ?_ GE232.out) | exact HB.out)) hb); have n14_ := Aside0.mk (hbox); have n15_ := Aside0.mk ((by rw [hg]; exact (below_size (by repeat (first | (with_reducible first | exact HB.out | apply below_alloc | apply pw_below_drewN | apply below_drew1 | refine below_set ?_ GE232.out) | exact HB.out))) : w.heap.size ≤ gb271)); have n16_ := Aside0.mk ((by rw [hg]; exact (below_size (by repeat (first | (with_reducible first | exact HB.out | apply below_alloc | apply pw_below_drewN | apply below_drew1 | refine below_set ?_ GE232.out) | exact HB.out))) : w.heap.size ≤ gb271)); have n17_ := Aside0.mk ((by rw [hg]; exact Nat.ne_of_lt (blk_lt (g := gb232) (o := .cells #[.slice A0_0 l0_0.length c0_0, .slice A0_1 l0_1.length c0_1, .slice A0_2 l0_2.length c0_2, .slice A0_3 l0_3.length c0_3, .slice A0_4 l0_4.length c0_4, .slice A0_5 l0_5.length c0_5] 28 (0, 0)) (by (with_reducible repeat (first | refine blk_drewN ?_ _ | refine blk_drew ?_ | refine blk_alloc ?_ _)); exact BK232.out)) : gb232 ≠ gb271)); have n18_ := Aside0.mk ((by rw [hg]; exact Nat.ne_of_gt (blk_lt (g := gb232) (o := .cells #[.slice A0_0 l0_0.length c0_0, .slice A0_1 l0_1.length c0_1, .slice A0_2 l0_2.length c0_2, .slice A0_3 l0_3.length c0_3, .slice A0_4 l0_4.length c0_4, .slice A0_5 l0_5.length c0_5] 28 (0, 0)) (by (with_reducible repeat (first | refine blk_drewN ?_ _ | refine blk_drew ?_ | refine blk_alloc ?_ _)); exact BK232.out)) : gb271 ≠ gb232)); clear HO236; clear HO239; clear HO242; clear HO245; clear HO248; clear HO251; clear HO255; clear HO258; clear HO261; clear HO264; clear HO267; clear HO270; clear BK232; clear HB; have HO236 := n0_; have HO239 := n1_; have HO242 := n2_; have HO245 := n3_; have HO248 := n4_; have HO251 := n5_; have HO255 := n6_; have HO258 := n7_; have HO261 := n8_; have HO264 := n9_; have HO267 := n10_; have HO270 := n11_; have BK232 := n12_; have HB := n13_; have BK271 := n14_; have GW271 := n15_; have GE271 := n16_; have NB232_271 := n17_; have NB271_232 := n18_; clear n0_ n1_ n2_ n3_ n4_ n5_ n6_ n7_ n8_ n9_ n10_ n11_ n12_ n13_ n14_ n15_ n16_ n17_ n18_; clear hb hbox hg; obtain ⟨Ao54, co54, eo54⟩ := Kd.R_slice HO255.out; subst eo54; have hnb55 := NB271_232.out; have hnc55 := NB232_271.out; have hcz56_0 : w53.cell? ⟨gb271, 0, none⟩ = some (.slice none 0 0) := (blk_cell BK271.out 0).trans rfl; have hcz56_1 : w53.cell? ⟨gb271, 1, none⟩ = some (.slice none 0 0) := (blk_cell BK271.out 1).trans rfl; have hcz56_2 : w53.cell? ⟨gb271, 2, none⟩ = some (.slice none 0 0) := (blk_cell BK271.out 2).trans rfl; have hcz56_3 : w53.cell? ⟨gb271, 3, none⟩ = some (.slice none 0 0) := (blk_cell BK271.out 3).trans rfl; have hcz56_4 : w53.cell? ⟨gb271, 4, none⟩ = some (.slice none 0 0) := (blk_cell BK271.out 4).trans rfl; have hcz56_5 : w53.cell? ⟨gb271, 5, none⟩ = some (.slice none 0 0) := (blk_cell BK271.out 5).trans rfl; have hfz56_0 := blk_frozen BK271.out 0; have hfz56_1 := blk_frozen BK271.out 1; have hfz56_2 := blk_frozen BK271.out 2; have hfz56_3 := blk_frozen BK271.out 3; have hfz56_4 := blk_frozen BK271.out 4; have hfz56_5 := blk_frozen BK271.out 5; obtain ⟨Ao57, co57, eo57⟩ := Kd.R_slice HO258.out; subst eo57; obtain ⟨Ao58, co58, eo58⟩ := Kd.R_slice HO261.out; subst eo58; obtain ⟨Ao59, co59, eo59⟩ := Kd.R_slice HO264.out; subst eo59; obtain ⟨Ao60, co60, eo60⟩ := Kd.R_slice HO267.out; subst eo60; obtain ⟨Ao61, co61, eo61⟩ := Kd.R_slice HO270.out; subst eo61) | ((with_reducible refine gate_callee (f := 24) rfl ?_); refine goesL_ (some 18) rfl rfl Try.func24 (by kernel_rfl) rfl #[.agg #[.slice Ao54 t253.length co54, .slice Ao57 t256.length co57, .slice Ao58 t259.length co58, .slice Ao59 t262.length co59, .slice Ao60 t265.length co60, .slice Ao61 t268.length co61]] rfl (by (try simp only [List.map_toArray, List.map_cons, List.map_nil]); first | done | rfl | (simp only [List.length_drop, List.length_take]; rfl)) ?_; (with_reducible refine (impl_NetOK.calls k _ _ t253 _ _ t256 _ _ t259 _ _ t262 _ _ t265 _ _ t268 t272 _ ?side1 ?side2 ?side3 ?side4 ?side5 ?side6 ?side7 ?side8 ?side9 ?side10 ?side11 ?side12 A10.out).mono ?_); (case side1 => refine (Kd.R_reads' (e := 9) (base := w.heap.size) (ok := fun k_ => (True ∧ some k_ ≠ (.slice Ao44 t234.length co44 : Value).ownBlock)) (n := t253.length) (c := co54) ?_).2.2; exact (by (with_reducible repeat (first | apply Kd.R_alloc | apply Kd.R_drewN | apply Kd.R_drew)); exact (Kd.R_mono (Kd.R_far (p := ⟨gb271, 5, none⟩) (Kd.R_far (p := ⟨gb271, 4, none⟩) (Kd.R_far (p := ⟨gb271, 3, none⟩) (Kd.R_far (p := ⟨gb271, 2, none⟩) (Kd.R_far (p := ⟨gb271, 1, none⟩) (Kd.R_far (p := ⟨gb271, 0, none⟩) (Kd.R_types HO255.out BK271.out (by decide)) (fun _ hk => hk.2) (.slice Ao54 t253.length co54)) (fun _ hk => hk.2) (.slice Ao57 t256.length co57)) (fun _ hk => hk.2) (.slice Ao58 t259.length co58)) (fun _ hk => hk.2) (.slice Ao59 t262.length co59)) (fun _ hk => hk.2) (.slice Ao60 t265.length co60)) (fun _ hk => hk.2) (.slice Ao61 t268.length co61)) (fun _ h_ => h_.1)))); (case side2 => exact (Kd.R_reads' HO255.out).2.1); (case side3 => refine (Kd.R_reads' (e := 92) (base := w.heap.size) (ok := fun k_ => (True ∧ some k_ ≠ (.slice Ao45 t237.length co45 : Value).ownBlock)) (n := t256.length) (c := co57) ?_).2.2; exact (by (with_reducible repeat (first | apply Kd.R_alloc | apply Kd.R_drewN | apply Kd.R_drew)); exact (Kd.R_mono (Kd.R_far (p := ⟨gb271, 5, none⟩) (Kd.R_far (p := ⟨gb271, 4, none⟩) (Kd.R_far (p := ⟨gb271, 3, none⟩) (Kd.R_far (p := ⟨gb271, 2, none⟩) (Kd.R_far (p := ⟨gb271, 1, none⟩) (Kd.R_far (p := ⟨gb271, 0, none⟩) (Kd.R_types HO258.out BK271.out (by decide)) (fun _ hk => hk.2) (.slice Ao54 t253.length co54)) (fun _ hk => hk.2) (.slice Ao57 t256.length co57)) (fun _ hk => hk.2) (.slice Ao58 t259.length co58)) (fun _ hk => hk.2) (.slice Ao59 t262.length co59)) (fun _ hk => hk.2) (.slice Ao60 t265.length co60)) (fun _ hk => hk.2) (.slice Ao61 t268.length co61)) (fun _ h_ => h_.1)))); (case side4 => exact (Kd.R_reads' HO258.out).2.1); (case side5 => refine (Kd.R_reads' (e := 3) (base := w.heap.size) (ok := fun k_ => ((some k_ ≠ (.slice Ao59 t262.length co59 : Value).ownBlock ∧ some k_ ≠ (.slice Ao46 t240.length co46 : Value).ownBlock) ∧ some k_ ≠ (.slice Ao47 t243.length co47 : Value).ownBlock)) (n := t259.length) (c := co58) ?_).2.2; exact (by (with_reducible repeat (first | apply Kd.R_alloc | apply Kd.R_drewN | apply Kd.R_drew)); exact (Kd.R_mono (Kd.R_far (p := ⟨gb271, 5, none⟩) (Kd.R_far (p := ⟨gb271, 4, none⟩) (Kd.R_far (p := ⟨gb271, 3, none⟩) (Kd.R_far (p := ⟨gb271, 2, none⟩) (Kd.R_far (p := ⟨gb271, 1, none⟩) (Kd.R_far (p := ⟨gb271, 0, none⟩) (Kd.R_types HO261.out BK271.out (by decide)) (fun _ hk => hk.2) (.slice Ao54 t253.length co54)) (fun _ hk => hk.2) (.slice Ao57 t256.length co57)) (fun _ hk => hk.2) (.slice Ao58 t259.length co58)) (fun _ hk => hk.2) (.slice Ao59 t262.length co59)) (fun _ hk => hk.2) (.slice Ao60 t265.length co60)) (fun _ hk => hk.2) (.slice Ao61 t268.length co61)) (fun _ h_ => h_.1)))); (case side6 => exact (Kd.R_reads' HO261.out).2.1); (case side7 => refine (Kd.R_reads' (e := 3) (base := w.heap.size) (ok := fun k_ => ((some k_ ≠ (.slice Ao58 t259.length co58 : Value).ownBlock ∧ some k_ ≠ (.slice Ao46 t240.length co46 : Value).ownBlock) ∧ some k_ ≠ (.slice Ao47 t243.length co47 : Value).ownBlock)) (n := t262.length) (c := co59) ?_).2.2; exact (by (with_reducible repeat (first | apply Kd.R_alloc | apply Kd.R_drewN | apply Kd.R_drew)); exact (Kd.R_mono (Kd.R_far (p := ⟨gb271, 5, none⟩) (Kd.R_far (p := ⟨gb271, 4, none⟩) (Kd.R_far (p := ⟨gb271, 3, none⟩) (Kd.R_far (p := ⟨gb271, 2, none⟩) (Kd.R_far (p := ⟨gb271, 1, none⟩) (Kd.R_far (p := ⟨gb271, 0, none⟩) (Kd.R_types HO264.out BK271.out (by decide)) (fun _ hk => hk.2) (.slice Ao54 t253.length co54)) (fun _ hk => hk.2) (.slice Ao57 t256.length co57)) (fun _ hk => hk.2) (.slice Ao58 t259.length co58)) (fun _ hk => hk.2) (.slice Ao59 t262.length co59)) (fun _ hk => hk.2) (.slice Ao60 t265.length co60)) (fun _ hk => hk.2) (.slice Ao61 t268.length co61)) (fun _ h_ => h_.1)))); (case side8 => exact (Kd.R_reads' HO264.out).2.1); (case side9 => refine (Kd.R_reads' (e := 95) (base := w.heap.size) (ok := fun k_ => (True ∧ some k_ ≠ (.slice Ao48 t246.length co48 : Value).ownBlock)) (n := t265.length) (c := co60) ?_).2.2; exact (by (with_reducible repeat (first | apply Kd.R_alloc | apply Kd.R_drewN | apply Kd.R_drew)); exact (Kd.R_mono (Kd.R_far (p := ⟨gb271, 5, none⟩) (Kd.R_far (p := ⟨gb271, 4, none⟩) (Kd.R_far (p := ⟨gb271, 3, none⟩) (Kd.R_far (p := ⟨gb271, 2, none⟩) (Kd.R_far (p := ⟨gb271, 1, none⟩) (Kd.R_far (p := ⟨gb271, 0, none⟩) (Kd.R_types HO267.out BK271.out (by decide)) (fun _ hk => hk.2) (.slice Ao54 t253.length co54)) (fun _ hk => hk.2) (.slice Ao57 t256.length co57)) (fun _ hk => hk.2) (.slice Ao58 t259.length co58)) (fun _ hk => hk.2) (.slice Ao59 t262.length co59)) (fun _ hk => hk.2) (.slice Ao60 t265.length co60)) (fun _ hk => hk.2) (.slice Ao61 t268.length co61)) (fun _ h_ => h_.1)))); (case side10 => exact (Kd.R_reads' HO267.out).2.1); (case side11 => refine (Kd.R_reads' (e := 97) (base := w.heap.size) (ok := fun k_ => (True ∧ some k_ ≠ (.slice Ao49 t249.length co49 : Value).ownBlock)) (n := t268.length) (c := co61) ?_).2.2; exact (by (with_reducible repeat (first | apply Kd.R_alloc | apply Kd.R_drewN | apply Kd.R_drew)); exact (Kd.R_mono (Kd.R_far (p := ⟨gb271, 5, none⟩) (Kd.R_far (p := ⟨gb271, 4, none⟩) (Kd.R_far (p := ⟨gb271, 3, none⟩) (Kd.R_far (p := ⟨gb271, 2, none⟩) (Kd.R_far (p := ⟨gb271, 1, none⟩) (Kd.R_far (p := ⟨gb271, 0, none⟩) (Kd.R_types HO270.out BK271.out (by decide)) (fun _ hk => hk.2) (.slice Ao54 t253.length co54)) (fun _ hk => hk.2) (.slice Ao57 t256.length co57)) (fun _ hk => hk.2) (.slice Ao58 t259.length co58)) (fun _ hk => hk.2) (.slice Ao59 t262.length co59)) (fun _ hk => hk.2) (.slice Ao60 t265.length co60)) (fun _ hk => hk.2) (.slice Ao61 t268.length co61)) (fun _ h_ => h_.1)))); (case side12 => exact (Kd.R_reads' HO270.out).2.1); rintro e w62 ⟨rfl, hb⟩; refine ⟨_, rfl, ?_⟩; have n0_ := Aside0.mk (Kd.R_below (by (with_reducible repeat (first | apply Kd.R_alloc | apply Kd.R_drewN | apply Kd.R_drew)); exact (Kd.R_mono (Kd.R_far (p := ⟨gb271, 5, none⟩) (Kd.R_far (p := ⟨gb271, 4, none⟩) (Kd.R_far (p := ⟨gb271, 3, none⟩) (Kd.R_far (p := ⟨gb271, 2, none⟩) (Kd.R_far (p := ⟨gb271, 1, none⟩) (Kd.R_far (p := ⟨gb271, 0, none⟩) (Kd.R_types HO236.out BK271.out (by decide)) (fun _ hk => hk.2) (.slice Ao54 t253.length co54)) (fun _ hk => hk.2) (.slice Ao57 t256.length co57)) (fun _ hk => hk.2) (.slice Ao58 t259.length co58)) (fun _ hk => hk.2) (.slice Ao59 t262.length co59)) (fun _ hk => hk.2) (.slice Ao60 t265.length co60)) (fun _ hk => hk.2) (.slice Ao61 t268.length co61)) (fun _ h_ => h_.1))) hb); have n1_ := Aside0.mk (Kd.R_below (by (with_reducible repeat (first | apply Kd.R_alloc | apply Kd.R_drewN | apply Kd.R_drew)); exact (Kd.R_mono (Kd.R_far (p := ⟨gb271, 5, none⟩) (Kd.R_far (p := ⟨gb271, 4, none⟩) (Kd.R_far (p := ⟨gb271, 3, none⟩) (Kd.R_far (p := ⟨gb271, 2, none⟩) (Kd.R_far (p := ⟨gb271, 1, none⟩) (Kd.R_far (p := ⟨gb271, 0, none⟩) (Kd.R_types HO239.out BK271.out (by decide)) (fun _ hk => hk.2) (.slice Ao54 t253.length co54)) (fun _ hk => hk.2) (.slice Ao57 t256.length co57)) (fun _ hk => hk.2) (.slice Ao58 t259.length co58)) (fun _ hk => hk.2) (.slice Ao59 t262.length co59)) (fun _ hk => hk.2) (.slice Ao60 t265.length co60)) (fun _ hk => hk.2) (.slice Ao61 t268.length co61)) (fun _ h_ => h_.1))) hb); have n2_ := Aside0.mk (Kd.R_below (by (with_reducible repeat (first | apply Kd.R_alloc | apply Kd.R_drewN | apply Kd.R_drew)); exact (Kd.R_mono (Kd.R_far (p := ⟨gb271, 5, none⟩) (Kd.R_far (p := ⟨gb271, 4, none⟩) (Kd.R_far (p := ⟨gb271, 3, none⟩) (Kd.R_far (p := ⟨gb271, 2, none⟩) (Kd.R_far (p := ⟨gb271, 1, none⟩) (Kd.R_far (p := ⟨gb271, 0, none⟩) (Kd.R_types HO242.out BK271.out (by decide)) (fun _ hk => hk.2) (.slice Ao54 t253.length co54)) (fun _ hk => hk.2) (.slice Ao57 t256.length co57)) (fun _ hk => hk.2) (.slice Ao58 t259.length co58)) (fun _ hk => hk.2) (.slice Ao59 t262.length co59)) (fun _ hk => hk.2) (.slice Ao60 t265.length co60)) (fun _ hk => hk.2) (.slice Ao61 t268.length co61)) (fun _ h_ => h_.1))) hb); have n3_ := Aside0.mk (Kd.R_below (by (with_reducible repeat (first | apply Kd.R_alloc | apply Kd.R_drewN | apply Kd.R_drew)); exact (Kd.R_mono (Kd.R_far (p := ⟨gb271, 5, none⟩) (Kd.R_far (p := ⟨gb271, 4, none⟩) (Kd.R_far (p := ⟨gb271, 3, none⟩) (Kd.R_far (p := ⟨gb271, 2, none⟩) (Kd.R_far (p := ⟨gb271, 1, none⟩) (Kd.R_far (p := ⟨gb271, 0, none⟩) (Kd.R_types HO245.out BK271.out (by decide)) (fun _ hk => hk.2) (.slice Ao54 t253.length co54)) (fun _ hk => hk.2) (.slice Ao57 t256.length co57)) (fun _ hk => hk.2) (.slice Ao58 t259.length co58)) (fun _ hk => hk.2) (.slice Ao59 t262.length co59)) (fun _ hk => hk.2) (.slice Ao60 t265.length co60)) (fun _ hk => hk.2) (.slice Ao61 t268.length co61)) (fun _ h_ => h_.1))) hb); have n4_ := Aside0.mk (Kd.R_below (by (with_reducible repeat (first | apply Kd.R_alloc | apply Kd.R_drewN | apply Kd.R_drew)); exact (Kd.R_mono (Kd.R_far (p := ⟨gb271, 5, none⟩) (Kd.R_far (p := ⟨gb271, 4, none⟩) (Kd.R_far (p := ⟨gb271, 3, none⟩) (Kd.R_far (p := ⟨gb271, 2, none⟩) (Kd.R_far (p := ⟨gb271, 1, none⟩) (Kd.R_far (p := ⟨gb271, 0, none⟩) (Kd.R_types HO248.out BK271.out (by decide)) (fun _ hk => hk.2) (.slice Ao54 t253.length co54)) (fun _ hk => hk.2) (.slice Ao57 t256.length co57)) (fun _ hk => hk.2) (.slice Ao58 t259.length co58)) (fun _ hk => hk.2) (.slice Ao59 t262.length co59)) (fun _ hk => hk.2) (.slice Ao60 t265.length co60)) (fun _ hk => hk.2) (.slice Ao61 t268.length co61)) (fun _ h_ => h_.1))) hb); have n5_ := Aside0.mk (Kd.R_below (by (with_reducible repeat (first | apply Kd.R_alloc | apply Kd.R_drewN | apply Kd.R_drew)); exact (Kd.R_mono (Kd.R_far (p := ⟨gb271, 5, none⟩) (Kd.R_far (p := ⟨gb271, 4, none⟩) (Kd.R_far (p := ⟨gb271, 3, none⟩) (Kd.R_far (p := ⟨gb271, 2, none⟩) (Kd.R_far (p := ⟨gb271, 1, none⟩) (Kd.R_far (p := ⟨gb271, 0, none⟩) (Kd.R_types HO251.out BK271.out (by decide)) (fun _ hk => hk.2) (.slice Ao54 t253.length co54)) (fun _ hk => hk.2) (.slice Ao57 t256.length co57)) (fun _ hk => hk.2) (.slice Ao58 t259.length co58)) (fun _ hk => hk.2) (.slice Ao59 t262.length co59)) (fun _ hk => hk.2) (.slice Ao60 t265.length co60)) (fun _ hk => hk.2) (.slice Ao61 t268.length co61)) (fun _ h_ => h_.1))) hb); have n6_ := Aside0.mk (Kd.R_below (by (with_reducible repeat (first | apply Kd.R_alloc | apply Kd.R_drewN | apply Kd.R_drew)); exact (Kd.R_mono (Kd.R_far (p := ⟨gb271, 5, none⟩) (Kd.R_far (p := ⟨gb271, 4, none⟩) (Kd.R_far (p := ⟨gb271, 3, none⟩) (Kd.R_far (p := ⟨gb271, 2, none⟩) (Kd.R_far (p := ⟨gb271, 1, none⟩) (Kd.R_far (p := ⟨gb271, 0, none⟩) (Kd.R_types HO255.out BK271.out (by decide)) (fun _ hk => hk.2) (.slice Ao54 t253.length co54)) (fun _ hk => hk.2) (.slice Ao57 t256.length co57)) (fun _ hk => hk.2) (.slice Ao58 t259.length co58)) (fun _ hk => hk.2) (.slice Ao59 t262.length co59)) (fun _ hk => hk.2) (.slice Ao60 t265.length co60)) (fun _ hk => hk.2) (.slice Ao61 t268.length co61)) (fun _ h_ => h_.1))) hb); have n7_ := Aside0.mk (Kd.R_below (by (with_reducible repeat (first | apply Kd.R_alloc | apply Kd.R_drewN | apply Kd.R_drew)); exact (Kd.R_mono (Kd.R_far (p := ⟨gb271, 5, none⟩) (Kd.R_far (p := ⟨gb271, 4, none⟩) (Kd.R_far (p := ⟨gb271, 3, none⟩) (Kd.R_far (p := ⟨gb271, 2, none⟩) (Kd.R_far (p := ⟨gb271, 1, none⟩) (Kd.R_far (p := ⟨gb271, 0, none⟩) (Kd.R_types HO258.out BK271.out (by decide)) (fun _ hk => hk.2) (.slice Ao54 t253.length co54)) (fun _ hk => hk.2) (.slice Ao57 t256.length co57)) (fun _ hk => hk.2) (.slice Ao58 t259.length co58)) (fun _ hk => hk.2) (.slice Ao59 t262.length co59)) (fun _ hk => hk.2) (.slice Ao60 t265.length co60)) (fun _ hk => hk.2) (.slice Ao61 t268.length co61)) (fun _ h_ => h_.1))) hb); have n8_ := Aside0.mk (Kd.R_below (by (with_reducible repeat (first | apply Kd.R_alloc | apply Kd.R_drewN | apply Kd.R_drew)); exact (Kd.R_mono (Kd.R_far (p := ⟨gb271, 5, none⟩) (Kd.R_far (p := ⟨gb271, 4, none⟩) (Kd.R_far (p := ⟨gb271, 3, none⟩) (Kd.R_far (p := ⟨gb271, 2, none⟩) (Kd.R_far (p := ⟨gb271, 1, none⟩) (Kd.R_far (p := ⟨gb271, 0, none⟩) (Kd.R_types HO261.out BK271.out (by decide)) (fun _ hk => hk.2) (.slice Ao54 t253.length co54)) (fun _ hk => hk.2) (.slice Ao57 t256.length co57)) (fun _ hk => hk.2) (.slice Ao58 t259.length co58)) (fun _ hk => hk.2) (.slice Ao59 t262.length co59)) (fun _ hk => hk.2) (.slice Ao60 t265.length co60)) (fun _ hk => hk.2) (.slice Ao61 t268.length co61)) (fun _ h_ => h_.1))) hb); have n9_ := Aside0.mk (Kd.R_below (by (with_reducible repeat (first | apply Kd.R_alloc | apply Kd.R_drewN | apply Kd.R_drew)); exact (Kd.R_mono (Kd.R_far (p := ⟨gb271, 5, none⟩) (Kd.R_far (p := ⟨gb271, 4, none⟩) (Kd.R_far (p := ⟨gb271, 3, none⟩) (Kd.R_far (p := ⟨gb271, 2, none⟩) (Kd.R_far (p := ⟨gb271, 1, none⟩) (Kd.R_far (p := ⟨gb271, 0, none⟩) (Kd.R_types HO264.out BK271.out (by decide)) (fun _ hk => hk.2) (.slice Ao54 t253.length co54)) (fun _ hk => hk.2) (.slice Ao57 t256.length co57)) (fun _ hk => hk.2) (.slice Ao58 t259.length co58)) (fun _ hk => hk.2) (.slice Ao59 t262.length co59)) (fun _ hk => hk.2) (.slice Ao60 t265.length co60)) (fun _ hk => hk.2) (.slice Ao61 t268.length co61)) (fun _ h_ => h_.1))) hb); have n10_ := Aside0.mk (Kd.R_below (by (with_reducible repeat (first | apply Kd.R_alloc | apply Kd.R_drewN | apply Kd.R_drew)); exact (Kd.R_mono (Kd.R_far (p := ⟨gb271, 5, none⟩) (Kd.R_far (p := ⟨gb271, 4, none⟩) (Kd.R_far (p := ⟨gb271, 3, none⟩) (Kd.R_far (p := ⟨gb271, 2, none⟩) (Kd.R_far (p := ⟨gb271, 1, none⟩) (Kd.R_far (p := ⟨gb271, 0, none⟩) (Kd.R_types HO267.out BK271.out (by decide)) (fun _ hk => hk.2) (.slice Ao54 t253.length co54)) (fun _ hk => hk.2) (.slice Ao57 t256.length co57)) (fun _ hk => hk.2) (.slice Ao58 t259.length co58)) (fun _ hk => hk.2) (.slice Ao59 t262.length co59)) (fun _ hk => hk.2) (.slice Ao60 t265.length co60)) (fun _ hk => hk.2) (.slice Ao61 t268.length co61)) (fun _ h_ => h_.1))) hb); have n11_ := Aside0.mk (Kd.R_below (by (with_reducible repeat (first | apply Kd.R_alloc | apply Kd.R_drewN | apply Kd.R_drew)); exact (Kd.R_mono (Kd.R_far (p := ⟨gb271, 5, none⟩) (Kd.R_far (p := ⟨gb271, 4, none⟩) (Kd.R_far (p := ⟨gb271, 3, none⟩) (Kd.R_far (p := ⟨gb271, 2, none⟩) (Kd.R_far (p := ⟨gb271, 1, none⟩) (Kd.R_far (p := ⟨gb271, 0, none⟩) (Kd.R_types HO270.out BK271.out (by decide)) (fun _ hk => hk.2) (.slice Ao54 t253.length co54)) (fun _ hk => hk.2) (.slice Ao57 t256.length co57)) (fun _ hk => hk.2) (.slice Ao58 t259.length co58)) (fun _ hk => hk.2) (.slice Ao59 t262.length co59)) (fun _ hk => hk.2) (.slice Ao60 t265.length co60)) (fun _ hk => hk.2) (.slice Ao61 t268.length co61)) (fun _ h_ => h_.1))) hb); have n12_ := Aside0.mk (blk_below (g := gb232) (o := .cells #[.slice A0_0 l0_0.length c0_0, .slice A0_1 l0_1.length c0_1, .slice A0_2 l0_2.length c0_2, .slice A0_3 l0_3.length c0_3, .slice A0_4 l0_4.length c0_4, .slice A0_5 l0_5.length c0_5] 28 (0, 0)) (by (with_reducible repeat (first | refine blk_drewN ?_ _ | refine blk_drew ?_ | refine blk_alloc ?_ _)); refine blk_far ?_ NB232_271.out _; (with_reducible repeat (first | refine blk_drewN ?_ _ | refine blk_drew ?_ | refine blk_alloc ?_ _)); refine blk_far ?_ NB232_271.out _; (with_reducible repeat (first | refine blk_drewN ?_ _ | refine blk_drew ?_ | refine blk_alloc ?_ _)); refine blk_far ?_ NB232_271.out _; (with_reducible repeat (first | refine blk_drewN ?_ _ | refine blk_drew ?_ | refine blk_alloc ?_ _)); refine blk_far ?_ NB232_271.out _; (with_reducible repeat (first | refine blk_drewN ?_ _ | refine blk_drew ?_ | refine blk_alloc ?_ _)); refine blk_far ?_ NB232_271.out _; (with_reducible repeat (first | refine blk_drewN ?_ _ | refine blk_drew ?_ | refine blk_alloc ?_ _)); refine blk_far ?_ NB232_271.out _; (with_reducible repeat (first | refine blk_drewN ?_ _ | refine blk_drew ?_ | refine blk_alloc ?_ _)); exact BK232.out) hb); have n13_ := Aside0.mk (blk_below (g := gb271) (o := .cells #[.slice Ao54 t253.length co54, .slice Ao57 t256.length co57, .slice Ao58 t259.length co58, .slice Ao59 t262.length co59, .slice Ao60 t265.length co60, .slice Ao61 t268.length co61] 38 (0, 0)) (by (with_reducible repeat (first | refine blk_drewN ?_ _ | refine blk_drew ?_ | refine blk_alloc ?_ _)); refine blk_put (cs := #[.slice Ao54 t253.length co54, .slice Ao57 t256.length co57, .slice Ao58 t259.length co58, .slice Ao59 t262.length co59, .slice Ao60 t265.length co60, .slice none 0 0]) ?_ 5 _ rfl; (with_reducible repeat (first | refine blk_drewN ?_ _ | refine blk_drew ?_ | refine blk_alloc ?_ _)); refine blk_put (cs := #[.slice Ao54 t253.length co54, .slice Ao57 t256.length co57, .slice Ao58 t259.length co58, .slice Ao59 t262.length co59, .slice none 0 0, .slice none 0 0]) ?_ 4 _ rfl; (with_reducible repeat (first | refine blk_drewN ?_ _ | refine blk_drew ?_ | refine blk_alloc ?_ _)); refine blk_put (cs := #[.slice Ao54 t253.length co54, .slice Ao57 t256.length co57, .slice Ao58 t259.length co58, .slice none 0 0, .slice none 0 0, .slice none 0 0]) ?_ 3 _ rfl; (with_reducible repeat (first | refine blk_drewN ?_ _ | refine blk_drew ?_ | refine blk_alloc ?_ _)); refine blk_put (cs := #[.slice Ao54 t253.length co54, .slice Ao57 t256.length co57, .slice none 0 0, .slice none 0 0, .slice none 0 0, .slice none 0 0]) ?_ 2 _ rfl; (with_reducible repeat (first | refine blk_drewN ?_ _ | refine blk_drew ?_ | refine blk_alloc ?_ _)); refine blk_put (cs := #[.slice Ao54 t253.length co54, .slice none 0 0, .slice none 0 0, .slice none 0 0, .slice none 0 0, .slice none 0 0]) ?_ 1 _ rfl; (with_reducible repeat (first | refine blk_drewN ?_ _ | refine blk_drew ?_ | refine blk_alloc ?_ _)); refine blk_put (cs := #[.slice none 0 0, .slice none 0 0, .slice none 0 0, .slice none 0 0, .slice none 0 0, .slice none 0 0]) ?_ 0 _ rfl; (with_reducible repeat (first | refine blk_drewN ?_ _ | refine blk_drew ?_ | refine blk_alloc ?_ _)); exact BK271.out) hb); have n14_ := Aside0.mk (below_step (by repeat (first | (with_reducible first | exact HB.out | apply below_alloc | apply pw_below_drewN | apply below_drew1 | refine below_set ?_ GE232.out | refine below_set ?_ GE271.out) | exact HB.out)) hb); clear HO236; clear HO239; clear HO242; clear HO245; clear HO248; clear HO251; clear HO255; clear HO258; clear HO261; clear HO264; clear HO267; clear HO270; clear BK232; clear BK271; clear HB; have HO236 := n0_; have HO239 := n1_; have HO242 := n2_; have HO245 := n3_; have HO248 := n4_; have HO251 := n5_; have HO255 := n6_; have HO258 := n7_; have HO261 := n8_; have HO264 := n9_; have HO267 := n10_; have HO270 := n11_; have BK232 := n12_; have BK271 := n13_; have HB := n14_; clear n0_ n1_ n2_ n3_ n4_ n5_ n6_ n7_ n8_ n9_ n10_ n11_ n12_ n13_ n14_; (try clear hb); (try clear hb2); (try clear hk); (try clear hi)))
    have n0_ := Aside0.mk (Kd.R_drew HO236.out)
    have n1_ := Aside0.mk (Kd.R_drew HO239.out)
    have n2_ := Aside0.mk (Kd.R_drew HO242.out)
    have n3_ := Aside0.mk (Kd.R_drew HO245.out)
    have n4_ := Aside0.mk (Kd.R_drew HO248.out)
    have n5_ := Aside0.mk (Kd.R_drew HO251.out)
    have n6_ := Aside0.mk (Kd.R_drew HO255.out)
    have n7_ := Aside0.mk (Kd.R_drew HO258.out)
    have n8_ := Aside0.mk (Kd.R_drew HO261.out)
    have n9_ := Aside0.mk (Kd.R_drew HO264.out)
    have n10_ := Aside0.mk (Kd.R_drew HO267.out)
    have n11_ := Aside0.mk (Kd.R_drew HO270.out)
    have n12_ := Aside0.mk (blk_drew BK232.out)
    have n13_ := Aside0.mk (blk_drew BK271.out)
    have n14_ := Aside0.mk (below_drew1 HB.out)
    clear HO236
    clear HO239
    clear HO242
    clear HO245
    clear HO248
    clear HO251
    clear HO255
    clear HO258
    clear HO261
    clear HO264
    clear HO267
    clear HO270
    clear BK232
    clear BK271
    clear HB
    have HO236 := n0_
    have HO239 := n1_
    have HO242 := n2_
    have HO245 := n3_
    have HO248 := n4_
    have HO251 := n5_
    have HO255 := n6_
    have HO258 := n7_
    have HO261 := n8_
    have HO264 := n9_
    have HO267 := n10_
    have HO270 := n11_
    have BK232 := n12_
    have BK271 := n13_
    have HB := n14_
    clear n0_ n1_ n2_ n3_ n4_ n5_ n6_ n7_ n8_ n9_ n10_ n11_ n12_ n13_ n14_
    refine start_ (n := 5) (S := fun w' => w'.cell? ⟨gb271, 0, none⟩ = some (.slice Ao54 t253.length co54) ∧ w'.cell? ⟨gb271, 1, none⟩ = some (.slice Ao57 t256.length co57) ∧ w'.cell? ⟨gb271, 2, none⟩ = some (.slice Ao58 t259.length co58) ∧ w'.cell? ⟨gb271, 3, none⟩ = some (.slice Ao59 t262.length co59) ∧ w'.cell? ⟨gb271, 4, none⟩ = some (.slice Ao60 t265.length co60) ∧ w'.cell? ⟨gb271, 5, none⟩ = some (.slice Ao61 t268.length co61) ∧ w'.cell? ⟨gb232, 0, none⟩ = some (.slice A0_0 l0_0.length c0_0) ∧ w'.cell? ⟨gb232, 1, none⟩ = some (.slice A0_1 l0_1.length c0_1) ∧ w'.cell? ⟨gb232, 2, none⟩ = some (.slice A0_2 l0_2.length c0_2) ∧ w'.cell? ⟨gb232, 3, none⟩ = some (.slice A0_3 l0_3.length c0_3) ∧ w'.cell? ⟨gb232, 4, none⟩ = some (.slice A0_4 l0_4.length c0_4) ∧ w'.cell? ⟨gb232, 5, none⟩ = some (.slice A0_5 l0_5.length c0_5)) (ds := []) #[false, false, false, false, false] (by kernel_rfl) rfl rfl ⟨(blk_cell BK271.out 0).trans rfl, (blk_cell BK271.out 1).trans rfl, (blk_cell BK271.out 2).trans rfl, (blk_cell BK271.out 3).trans rfl, (blk_cell BK271.out 4).trans rfl, (blk_cell BK271.out 5).trans rfl, (blk_cell BK232.out 0).trans rfl, (blk_cell BK232.out 1).trans rfl, (blk_cell BK232.out 2).trans rfl, (blk_cell BK232.out 3).trans rfl, (blk_cell BK232.out 4).trans rfl, (blk_cell BK232.out 5).trans rfl⟩ (fun hHeld => ?_)
    generalize w62.drew = w63 at HO236 HO239 HO242 HO245 HO248 HO251 HO255 HO258 HO261 HO264 HO267 HO270 BK232 BK271 HB hHeld ⊢
    refine take_ (i := 0) (N := some 22) (v := ?_) (a' := ?_) #[true, false, false, false, false] rfl rfl (by kernel_rfl) (fun _ _ _ h => h) (Or.inl ⟨by rfl, ?_⟩) hHeld ?_ ?_
    rotate_left
    ·rintro w' ⟨s0, s1, s2, s3, s4, s5, s6, s7, s8, s9, s10, s11⟩
     go_simp
     with_reducible rfl
    rotate_left
    ·simp only [Act.put, List.setIfInBounds_toArray, List.set_cons_zero, List.set_cons_succ, i64_w, i32_w]
     rfl
    refine take_ (i := 1) (N := some 23) (v := ?_) (a' := ?_) #[true, true, false, false, false] rfl rfl (by kernel_rfl) (fun _ _ _ h => h) (Or.inl ⟨by rfl, ?_⟩) hHeld ?_ ?_
    rotate_left
    ·rintro w' ⟨s0, s1, s2, s3, s4, s5, s6, s7, s8, s9, s10, s11⟩
     go_simp
     with_reducible rfl
    rotate_left
    ·simp only [Act.put, List.setIfInBounds_toArray, List.set_cons_zero, List.set_cons_succ, i64_w, i32_w]
     rfl
    refine one_ (i := 2) (N := some 24) #[true, true, true, false, false] rfl rfl (by kernel_rfl) (by decide) (fun K hK => ?_)
    refine goes_ Try.func10 (by kernel_rfl) rfl #[.agg #[.slice A0_0 l0_0.length c0_0, .slice A0_1 l0_1.length c0_1, .slice A0_2 l0_2.length c0_2, .slice A0_3 l0_3.length c0_3, .slice A0_4 l0_4.length c0_4, .slice A0_5 l0_5.length c0_5]] (by rfl) rfl rfl (by (try simp only [List.map_toArray, List.map_cons, List.map_nil]); first | done | rfl | (simp only [List.length_drop, List.length_take]; rfl)) ?_
    with_reducible refine (laws_toNet.calls k _ _ l0_0 _ _ l0_1 _ _ l0_2 _ _ l0_3 _ _ l0_4 _ _ l0_5 t273 t276 t279 t282 t285 t288 _ ?side1 ?side2 ?side3 ?side4 ?side5 ?side6 ?side7 ?side8 ?side9 ?side10 ?side11 ?side12 A36.out).mono ?_
    (case side1 => repeat (first | exact (Kd.C_below HR0_0.out HB.out) | (with_reducible refine Kd.C_alloc ?_ _) | (with_reducible refine Kd.C_drewN ?_ _) | (with_reducible refine Kd.C_drew ?_)))
    (case side2 => exact HC0_0.out)
    (case side3 => repeat (first | exact (Kd.C_below HR0_1.out HB.out) | (with_reducible refine Kd.C_alloc ?_ _) | (with_reducible refine Kd.C_drewN ?_ _) | (with_reducible refine Kd.C_drew ?_)))
    (case side4 => exact HC0_1.out)
    (case side5 => repeat (first | exact (Kd.C_below HR0_2.out HB.out) | (with_reducible refine Kd.C_alloc ?_ _) | (with_reducible refine Kd.C_drewN ?_ _) | (with_reducible refine Kd.C_drew ?_)))
    (case side6 => exact HC0_2.out)
    (case side7 => repeat (first | exact (Kd.C_below HR0_3.out HB.out) | (with_reducible refine Kd.C_alloc ?_ _) | (with_reducible refine Kd.C_drewN ?_ _) | (with_reducible refine Kd.C_drew ?_)))
    (case side8 => exact HC0_3.out)
    (case side9 => repeat (first | exact (Kd.C_below HR0_4.out HB.out) | (with_reducible refine Kd.C_alloc ?_ _) | (with_reducible refine Kd.C_drewN ?_ _) | (with_reducible refine Kd.C_drew ?_)))
    (case side10 => exact HC0_4.out)
    (case side11 => repeat (first | exact (Kd.C_below HR0_5.out HB.out) | (with_reducible refine Kd.C_alloc ?_ _) | (with_reducible refine Kd.C_drewN ?_ _) | (with_reducible refine Kd.C_drew ?_)))
    (case side12 => exact HC0_5.out)
    rintro e w64 ⟨v274, v277, v280, v283, v286, v289, rfl, ho0, ho1, ho2, ho3, ho4, ho5, hb⟩
    refine ⟨_, rfl, ?_⟩
    have n0_ := Aside0.mk (Kd.R_elder' (by (with_reducible repeat (first | apply Kd.R_alloc | apply Kd.R_drewN | apply Kd.R_drew)); exact HO236.out) (Kd.R_base ho0) hb)
    have n1_ := Aside0.mk (Kd.R_elder' (by (with_reducible repeat (first | apply Kd.R_alloc | apply Kd.R_drewN | apply Kd.R_drew)); exact HO239.out) (Kd.R_base ho1) hb)
    have n2_ := Aside0.mk (Kd.R_mono (Kd.R_told (Kd.R_told (Kd.R_old (by (with_reducible repeat (first | apply Kd.R_alloc | apply Kd.R_drewN | apply Kd.R_drew)); exact HO242.out) hb) (Kd.R_base ho2)) (Kd.R_base ho3)) (fun _ h_ => h_.1))
    have n3_ := Aside0.mk (Kd.R_mono (Kd.R_told (Kd.R_told (Kd.R_old (by (with_reducible repeat (first | apply Kd.R_alloc | apply Kd.R_drewN | apply Kd.R_drew)); exact HO245.out) hb) (Kd.R_base ho2)) (Kd.R_base ho3)) (fun _ h_ => h_.1))
    have n4_ := Aside0.mk (Kd.R_elder' (by (with_reducible repeat (first | apply Kd.R_alloc | apply Kd.R_drewN | apply Kd.R_drew)); exact HO248.out) (Kd.R_base ho4) hb)
    have n5_ := Aside0.mk (Kd.R_elder' (by (with_reducible repeat (first | apply Kd.R_alloc | apply Kd.R_drewN | apply Kd.R_drew)); exact HO251.out) (Kd.R_base ho5) hb)
    have n6_ := Aside0.mk (Kd.R_elder' (by (with_reducible repeat (first | apply Kd.R_alloc | apply Kd.R_drewN | apply Kd.R_drew)); exact HO255.out) (Kd.R_base ho0) hb)
    have n7_ := Aside0.mk (Kd.R_elder' (by (with_reducible repeat (first | apply Kd.R_alloc | apply Kd.R_drewN | apply Kd.R_drew)); exact HO258.out) (Kd.R_base ho1) hb)
    have n8_ := Aside0.mk (Kd.R_mono (Kd.R_told (Kd.R_told (Kd.R_old (by (with_reducible repeat (first | apply Kd.R_alloc | apply Kd.R_drewN | apply Kd.R_drew)); exact HO261.out) hb) (Kd.R_base ho2)) (Kd.R_base ho3)) (fun _ h_ => h_.1))
    have n9_ := Aside0.mk (Kd.R_mono (Kd.R_told (Kd.R_told (Kd.R_old (by (with_reducible repeat (first | apply Kd.R_alloc | apply Kd.R_drewN | apply Kd.R_drew)); exact HO264.out) hb) (Kd.R_base ho2)) (Kd.R_base ho3)) (fun _ h_ => h_.1))
    have n10_ := Aside0.mk (Kd.R_elder' (by (with_reducible repeat (first | apply Kd.R_alloc | apply Kd.R_drewN | apply Kd.R_drew)); exact HO267.out) (Kd.R_base ho4) hb)
    have n11_ := Aside0.mk (Kd.R_elder' (by (with_reducible repeat (first | apply Kd.R_alloc | apply Kd.R_drewN | apply Kd.R_drew)); exact HO270.out) (Kd.R_base ho5) hb)
    have n12_ := Aside0.mk (Kd.R_lower (Kd.R_new' (Kd.R_new' ho0 (Kd.R_lt (by (with_reducible repeat (first | apply Kd.R_alloc | apply Kd.R_drewN | apply Kd.R_drew)); exact HO236.out))) (Kd.R_lt (by (with_reducible repeat (first | apply Kd.R_alloc | apply Kd.R_drewN | apply Kd.R_drew)); exact HO255.out))) (below_size (by repeat (first | (with_reducible first | exact HB.out | apply below_alloc | apply pw_below_drewN | apply below_drew1 | refine below_set ?_ GE232.out | refine below_set ?_ GE271.out) | exact HB.out))))
    have n13_ := Aside0.mk (Kd.R_lower (Kd.R_new' (Kd.R_new' ho1 (Kd.R_lt (by (with_reducible repeat (first | apply Kd.R_alloc | apply Kd.R_drewN | apply Kd.R_drew)); exact HO239.out))) (Kd.R_lt (by (with_reducible repeat (first | apply Kd.R_alloc | apply Kd.R_drewN | apply Kd.R_drew)); exact HO258.out))) (below_size (by repeat (first | (with_reducible first | exact HB.out | apply below_alloc | apply pw_below_drewN | apply below_drew1 | refine below_set ?_ GE232.out | refine below_set ?_ GE271.out) | exact HB.out))))
    have n14_ := Aside0.mk (Kd.R_lower (Kd.R_new' (Kd.R_new' (Kd.R_new' (Kd.R_new' ho2 (Kd.R_lt (by (with_reducible repeat (first | apply Kd.R_alloc | apply Kd.R_drewN | apply Kd.R_drew)); exact HO242.out))) (Kd.R_lt (by (with_reducible repeat (first | apply Kd.R_alloc | apply Kd.R_drewN | apply Kd.R_drew)); exact HO245.out))) (Kd.R_lt (by (with_reducible repeat (first | apply Kd.R_alloc | apply Kd.R_drewN | apply Kd.R_drew)); exact HO261.out))) (Kd.R_lt (by (with_reducible repeat (first | apply Kd.R_alloc | apply Kd.R_drewN | apply Kd.R_drew)); exact HO264.out))) (below_size (by repeat (first | (with_reducible first | exact HB.out | apply below_alloc | apply pw_below_drewN | apply below_drew1 | refine below_set ?_ GE232.out | refine below_set ?_ GE271.out) | exact HB.out))))
    have n15_ := Aside0.mk (Kd.R_lower (Kd.R_new' (Kd.R_new' (Kd.R_new' (Kd.R_new' ho3 (Kd.R_lt (by (with_reducible repeat (first | apply Kd.R_alloc | apply Kd.R_drewN | apply Kd.R_drew)); exact HO242.out))) (Kd.R_lt (by (with_reducible repeat (first | apply Kd.R_alloc | apply Kd.R_drewN | apply Kd.R_drew)); exact HO245.out))) (Kd.R_lt (by (with_reducible repeat (first | apply Kd.R_alloc | apply Kd.R_drewN | apply Kd.R_drew)); exact HO261.out))) (Kd.R_lt (by (with_reducible repeat (first | apply Kd.R_alloc | apply Kd.R_drewN | apply Kd.R_drew)); exact HO264.out))) (below_size (by repeat (first | (with_reducible first | exact HB.out | apply below_alloc | apply pw_below_drewN | apply below_drew1 | refine below_set ?_ GE232.out | refine below_set ?_ GE271.out) | exact HB.out))))
    have n16_ := Aside0.mk (Kd.R_lower (Kd.R_new' (Kd.R_new' ho4 (Kd.R_lt (by (with_reducible repeat (first | apply Kd.R_alloc | apply Kd.R_drewN | apply Kd.R_drew)); exact HO248.out))) (Kd.R_lt (by (with_reducible repeat (first | apply Kd.R_alloc | apply Kd.R_drewN | apply Kd.R_drew)); exact HO267.out))) (below_size (by repeat (first | (with_reducible first | exact HB.out | apply below_alloc | apply pw_below_drewN | apply below_drew1 | refine below_set ?_ GE232.out | refine below_set ?_ GE271.out) | exact HB.out))))
    have n17_ := Aside0.mk (Kd.R_lower (Kd.R_new' (Kd.R_new' ho5 (Kd.R_lt (by (with_reducible repeat (first | apply Kd.R_alloc | apply Kd.R_drewN | apply Kd.R_drew)); exact HO251.out))) (Kd.R_lt (by (with_reducible repeat (first | apply Kd.R_alloc | apply Kd.R_drewN | apply Kd.R_drew)); exact HO270.out))) (below_size (by repeat (first | (with_reducible first | exact HB.out | apply below_alloc | apply pw_below_drewN | apply below_drew1 | refine below_set ?_ GE232.out | refine below_set ?_ GE271.out) | exact HB.out))))
    have n18_ := Aside0.mk (blk_below (g := gb232) (o := .cells #[.slice A0_0 l0_0.length c0_0, .slice A0_1 l0_1.length c0_1, .slice A0_2 l0_2.length c0_2, .slice A0_3 l0_3.length c0_3, .slice A0_4 l0_4.length c0_4, .slice A0_5 l0_5.length c0_5] 28 (0, 0)) (by (with_reducible repeat (first | refine blk_drewN ?_ _ | refine blk_drew ?_ | refine blk_alloc ?_ _)); exact BK232.out) hb)
    have n19_ := Aside0.mk (blk_below (g := gb271) (o := .cells #[.slice Ao54 t253.length co54, .slice Ao57 t256.length co57, .slice Ao58 t259.length co58, .slice Ao59 t262.length co59, .slice Ao60 t265.length co60, .slice Ao61 t268.length co61] 38 (0, 0)) (by (with_reducible repeat (first | refine blk_drewN ?_ _ | refine blk_drew ?_ | refine blk_alloc ?_ _)); exact BK271.out) hb)
    have n20_ := Aside0.mk (below_step (by repeat (first | (with_reducible first | exact HB.out | apply below_alloc | apply pw_below_drewN | apply below_drew1 | refine below_set ?_ GE232.out | refine below_set ?_ GE271.out) | exact HB.out)) hb)
    clear HO236
    clear HO239
    clear HO242
    clear HO245
    clear HO248
    clear HO251
    clear HO255
    clear HO258
    clear HO261
    clear HO264
    clear HO267
    clear HO270
    clear BK232
    clear BK271
    clear HB
    have HO236 := n0_
    have HO239 := n1_
    have HO242 := n2_
    have HO245 := n3_
    have HO248 := n4_
    have HO251 := n5_
    have HO255 := n6_
    have HO258 := n7_
    have HO261 := n8_
    have HO264 := n9_
    have HO267 := n10_
    have HO270 := n11_
    have HO275 := n12_
    have HO278 := n13_
    have HO281 := n14_
    have HO284 := n15_
    have HO287 := n16_
    have HO290 := n17_
    have BK232 := n18_
    have BK271 := n19_
    have HB := n20_
    clear n0_ n1_ n2_ n3_ n4_ n5_ n6_ n7_ n8_ n9_ n10_ n11_ n12_ n13_ n14_ n15_ n16_ n17_ n18_ n19_ n20_
    (try clear hb)
    (try clear hb2)
    (try clear hk)
    (try clear hi)
    (try clear ho0)
    (try clear ho1)
    (try clear ho2)
    (try clear ho3)
    (try clear ho4)
    (try clear ho5)
    obtain ⟨Ao65, co65, eo65⟩ := Kd.R_slice HO275.out
    (first | subst eo65 | (injection eo65 with f1_ f2_ f3_; have f4_ := f1_.symm; have f5_ := f3_.symm; clear f1_ f2_ f3_; subst f4_; subst f5_))
    obtain ⟨Ao66, co66, eo66⟩ := Kd.R_slice HO278.out
    (first | subst eo66 | (injection eo66 with f1_ f2_ f3_; have f4_ := f1_.symm; have f5_ := f3_.symm; clear f1_ f2_ f3_; subst f4_; subst f5_))
    obtain ⟨Ao67, co67, eo67⟩ := Kd.R_slice HO281.out
    (first | subst eo67 | (injection eo67 with f1_ f2_ f3_; have f4_ := f1_.symm; have f5_ := f3_.symm; clear f1_ f2_ f3_; subst f4_; subst f5_))
    obtain ⟨Ao68, co68, eo68⟩ := Kd.R_slice HO284.out
    (first | subst eo68 | (injection eo68 with f1_ f2_ f3_; have f4_ := f1_.symm; have f5_ := f3_.symm; clear f1_ f2_ f3_; subst f4_; subst f5_))
    obtain ⟨Ao69, co69, eo69⟩ := Kd.R_slice HO287.out
    (first | subst eo69 | (injection eo69 with f1_ f2_ f3_; have f4_ := f1_.symm; have f5_ := f3_.symm; clear f1_ f2_ f3_; subst f4_; subst f5_))
    obtain ⟨Ao70, co70, eo70⟩ := Kd.R_slice HO290.out
    (first | subst eo70 | (injection eo70 with f1_ f2_ f3_; have f4_ := f1_.symm; have f5_ := f3_.symm; clear f1_ f2_ f3_; subst f4_; subst f5_))
    refine hK.out _ _ ⟨(blk_cell BK271.out 0).trans rfl, (blk_cell BK271.out 1).trans rfl, (blk_cell BK271.out 2).trans rfl, (blk_cell BK271.out 3).trans rfl, (blk_cell BK271.out 4).trans rfl, (blk_cell BK271.out 5).trans rfl, (blk_cell BK232.out 0).trans rfl, (blk_cell BK232.out 1).trans rfl, (blk_cell BK232.out 2).trans rfl, (blk_cell BK232.out 3).trans rfl, (blk_cell BK232.out 4).trans rfl, (blk_cell BK232.out 5).trans rfl⟩ (fun hHeld => ?_)
    clear hK K
    refine norm_ (a' := ?_) ?_ ?_
    rotate_left
    ·show Act.put _ (some 24) _ = _
     simp only [Act.put, List.setIfInBounds_toArray, List.set_cons_zero, List.set_cons_succ, i64_w, i32_w]
     rfl
    refine one_ (i := 3) (N := some 25) #[true, true, true, true, false] rfl rfl (by kernel_rfl) (by decide) (fun K hK => ?_)
    refine goes_ Try.func15 (by kernel_rfl) rfl #[.agg #[.slice Ao54 t253.length co54, .slice Ao57 t256.length co57, .slice Ao58 t259.length co58, .slice Ao59 t262.length co59, .slice Ao60 t265.length co60, .slice Ao61 t268.length co61], .agg #[.slice Ao65 t273.length co65, .slice Ao66 t276.length co66, .slice Ao67 t279.length co67, .slice Ao68 t282.length co68, .slice Ao69 t285.length co69, .slice Ao70 t288.length co70]] (by rfl) rfl rfl (by (try simp only [List.map_toArray, List.map_cons, List.map_nil]); first | done | rfl | (simp only [List.length_drop, List.length_take]; rfl)) ?_
    with_reducible refine (laws_eqNet.calls k _ _ t253 _ _ t256 _ _ t259 _ _ t262 _ _ t265 _ _ t268 _ _ t273 _ _ t276 _ _ t279 _ _ t282 _ _ t285 _ _ t288 true _ ?side1 ?side2 ?side3 ?side4 ?side5 ?side6 ?side7 ?side8 ?side9 ?side10 ?side11 ?side12 ?side13 ?side14 ?side15 ?side16 ?side17 ?side18 ?side19 ?side20 ?side21 ?side22 ?side23 ?side24 A37.out).mono ?_
    (case side1 => repeat (first | exact (Kd.R_reads' HO255.out).2.2 | (with_reducible refine Kd.C_alloc ?_ _) | (with_reducible refine Kd.C_drewN ?_ _) | (with_reducible refine Kd.C_drew ?_)))
    (case side2 => exact (Kd.R_reads' HO255.out).2.1)
    (case side3 => repeat (first | exact (Kd.R_reads' HO258.out).2.2 | (with_reducible refine Kd.C_alloc ?_ _) | (with_reducible refine Kd.C_drewN ?_ _) | (with_reducible refine Kd.C_drew ?_)))
    (case side4 => exact (Kd.R_reads' HO258.out).2.1)
    (case side5 => repeat (first | exact (Kd.R_reads' HO261.out).2.2 | (with_reducible refine Kd.C_alloc ?_ _) | (with_reducible refine Kd.C_drewN ?_ _) | (with_reducible refine Kd.C_drew ?_)))
    (case side6 => exact (Kd.R_reads' HO261.out).2.1)
    (case side7 => repeat (first | exact (Kd.R_reads' HO264.out).2.2 | (with_reducible refine Kd.C_alloc ?_ _) | (with_reducible refine Kd.C_drewN ?_ _) | (with_reducible refine Kd.C_drew ?_)))
    (case side8 => exact (Kd.R_reads' HO264.out).2.1)
    (case side9 => repeat (first | exact (Kd.R_reads' HO267.out).2.2 | (with_reducible refine Kd.C_alloc ?_ _) | (with_reducible refine Kd.C_drewN ?_ _) | (with_reducible refine Kd.C_drew ?_)))
    (case side10 => exact (Kd.R_reads' HO267.out).2.1)
    (case side11 => repeat (first | exact (Kd.R_reads' HO270.out).2.2 | (with_reducible refine Kd.C_alloc ?_ _) | (with_reducible refine Kd.C_drewN ?_ _) | (with_reducible refine Kd.C_drew ?_)))
    (case side12 => exact (Kd.R_reads' HO270.out).2.1)
    (case side13 => repeat (first | exact (Kd.R_reads' HO275.out).2.2 | (with_reducible refine Kd.C_alloc ?_ _) | (with_reducible refine Kd.C_drewN ?_ _) | (with_reducible refine Kd.C_drew ?_)))
    (case side14 => exact (Kd.R_reads' HO275.out).2.1)
    (case side15 => repeat (first | exact (Kd.R_reads' HO278.out).2.2 | (with_reducible refine Kd.C_alloc ?_ _) | (with_reducible refine Kd.C_drewN ?_ _) | (with_reducible refine Kd.C_drew ?_)))
    (case side16 => exact (Kd.R_reads' HO278.out).2.1)
    (case side17 => repeat (first | exact (Kd.R_reads' HO281.out).2.2 | (with_reducible refine Kd.C_alloc ?_ _) | (with_reducible refine Kd.C_drewN ?_ _) | (with_reducible refine Kd.C_drew ?_)))
    (case side18 => exact (Kd.R_reads' HO281.out).2.1)
    (case side19 => repeat (first | exact (Kd.R_reads' HO284.out).2.2 | (with_reducible refine Kd.C_alloc ?_ _) | (with_reducible refine Kd.C_drewN ?_ _) | (with_reducible refine Kd.C_drew ?_)))
    (case side20 => exact (Kd.R_reads' HO284.out).2.1)
    (case side21 => repeat (first | exact (Kd.R_reads' HO287.out).2.2 | (with_reducible refine Kd.C_alloc ?_ _) | (with_reducible refine Kd.C_drewN ?_ _) | (with_reducible refine Kd.C_drew ?_)))
    (case side22 => exact (Kd.R_reads' HO287.out).2.1)
    (case side23 => repeat (first | exact (Kd.R_reads' HO290.out).2.2 | (with_reducible refine Kd.C_alloc ?_ _) | (with_reducible refine Kd.C_drewN ?_ _) | (with_reducible refine Kd.C_drew ?_)))
    (case side24 => exact (Kd.R_reads' HO290.out).2.1)
    rintro e w71 ⟨rfl, hb⟩
    refine ⟨_, rfl, ?_⟩
    have n0_ := Aside0.mk (Kd.R_below (by (with_reducible repeat (first | apply Kd.R_alloc | apply Kd.R_drewN | apply Kd.R_drew)); exact HO236.out) hb)
    have n1_ := Aside0.mk (Kd.R_below (by (with_reducible repeat (first | apply Kd.R_alloc | apply Kd.R_drewN | apply Kd.R_drew)); exact HO239.out) hb)
    have n2_ := Aside0.mk (Kd.R_below (by (with_reducible repeat (first | apply Kd.R_alloc | apply Kd.R_drewN | apply Kd.R_drew)); exact HO242.out) hb)
    have n3_ := Aside0.mk (Kd.R_below (by (with_reducible repeat (first | apply Kd.R_alloc | apply Kd.R_drewN | apply Kd.R_drew)); exact HO245.out) hb)
    have n4_ := Aside0.mk (Kd.R_below (by (with_reducible repeat (first | apply Kd.R_alloc | apply Kd.R_drewN | apply Kd.R_drew)); exact HO248.out) hb)
    have n5_ := Aside0.mk (Kd.R_below (by (with_reducible repeat (first | apply Kd.R_alloc | apply Kd.R_drewN | apply Kd.R_drew)); exact HO251.out) hb)
    have n6_ := Aside0.mk (Kd.R_below (by (with_reducible repeat (first | apply Kd.R_alloc | apply Kd.R_drewN | apply Kd.R_drew)); exact HO255.out) hb)
    have n7_ := Aside0.mk (Kd.R_below (by (with_reducible repeat (first | apply Kd.R_alloc | apply Kd.R_drewN | apply Kd.R_drew)); exact HO258.out) hb)
    have n8_ := Aside0.mk (Kd.R_below (by (with_reducible repeat (first | apply Kd.R_alloc | apply Kd.R_drewN | apply Kd.R_drew)); exact HO261.out) hb)
    have n9_ := Aside0.mk (Kd.R_below (by (with_reducible repeat (first | apply Kd.R_alloc | apply Kd.R_drewN | apply Kd.R_drew)); exact HO264.out) hb)
    have n10_ := Aside0.mk (Kd.R_below (by (with_reducible repeat (first | apply Kd.R_alloc | apply Kd.R_drewN | apply Kd.R_drew)); exact HO267.out) hb)
    have n11_ := Aside0.mk (Kd.R_below (by (with_reducible repeat (first | apply Kd.R_alloc | apply Kd.R_drewN | apply Kd.R_drew)); exact HO270.out) hb)
    have n12_ := Aside0.mk (Kd.R_below (by (with_reducible repeat (first | apply Kd.R_alloc | apply Kd.R_drewN | apply Kd.R_drew)); exact HO275.out) hb)
    have n13_ := Aside0.mk (Kd.R_below (by (with_reducible repeat (first | apply Kd.R_alloc | apply Kd.R_drewN | apply Kd.R_drew)); exact HO278.out) hb)
    have n14_ := Aside0.mk (Kd.R_below (by (with_reducible repeat (first | apply Kd.R_alloc | apply Kd.R_drewN | apply Kd.R_drew)); exact HO281.out) hb)
    have n15_ := Aside0.mk (Kd.R_below (by (with_reducible repeat (first | apply Kd.R_alloc | apply Kd.R_drewN | apply Kd.R_drew)); exact HO284.out) hb)
    have n16_ := Aside0.mk (Kd.R_below (by (with_reducible repeat (first | apply Kd.R_alloc | apply Kd.R_drewN | apply Kd.R_drew)); exact HO287.out) hb)
    have n17_ := Aside0.mk (Kd.R_below (by (with_reducible repeat (first | apply Kd.R_alloc | apply Kd.R_drewN | apply Kd.R_drew)); exact HO290.out) hb)
    have n18_ := Aside0.mk (blk_below (g := gb232) (o := .cells #[.slice A0_0 l0_0.length c0_0, .slice A0_1 l0_1.length c0_1, .slice A0_2 l0_2.length c0_2, .slice A0_3 l0_3.length c0_3, .slice A0_4 l0_4.length c0_4, .slice A0_5 l0_5.length c0_5] 28 (0, 0)) (by (with_reducible repeat (first | refine blk_drewN ?_ _ | refine blk_drew ?_ | refine blk_alloc ?_ _)); exact BK232.out) hb)
    have n19_ := Aside0.mk (blk_below (g := gb271) (o := .cells #[.slice Ao54 t253.length co54, .slice Ao57 t256.length co57, .slice Ao58 t259.length co58, .slice Ao59 t262.length co59, .slice Ao60 t265.length co60, .slice Ao61 t268.length co61] 38 (0, 0)) (by (with_reducible repeat (first | refine blk_drewN ?_ _ | refine blk_drew ?_ | refine blk_alloc ?_ _)); exact BK271.out) hb)
    have n20_ := Aside0.mk (below_step (by repeat (first | (with_reducible first | exact HB.out | apply below_alloc | apply pw_below_drewN | apply below_drew1 | refine below_set ?_ GE232.out | refine below_set ?_ GE271.out) | exact HB.out)) hb)
    clear HO236
    clear HO239
    clear HO242
    clear HO245
    clear HO248
    clear HO251
    clear HO255
    clear HO258
    clear HO261
    clear HO264
    clear HO267
    clear HO270
    clear HO275
    clear HO278
    clear HO281
    clear HO284
    clear HO287
    clear HO290
    clear BK232
    clear BK271
    clear HB
    have HO236 := n0_
    have HO239 := n1_
    have HO242 := n2_
    have HO245 := n3_
    have HO248 := n4_
    have HO251 := n5_
    have HO255 := n6_
    have HO258 := n7_
    have HO261 := n8_
    have HO264 := n9_
    have HO267 := n10_
    have HO270 := n11_
    have HO275 := n12_
    have HO278 := n13_
    have HO281 := n14_
    have HO284 := n15_
    have HO287 := n16_
    have HO290 := n17_
    have BK232 := n18_
    have BK271 := n19_
    have HB := n20_
    clear n0_ n1_ n2_ n3_ n4_ n5_ n6_ n7_ n8_ n9_ n10_ n11_ n12_ n13_ n14_ n15_ n16_ n17_ n18_ n19_ n20_
    (try clear hb)
    (try clear hb2)
    (try clear hk)
    (try clear hi)
    refine hK.out _ _ ⟨(blk_cell BK271.out 0).trans rfl, (blk_cell BK271.out 1).trans rfl, (blk_cell BK271.out 2).trans rfl, (blk_cell BK271.out 3).trans rfl, (blk_cell BK271.out 4).trans rfl, (blk_cell BK271.out 5).trans rfl, (blk_cell BK232.out 0).trans rfl, (blk_cell BK232.out 1).trans rfl, (blk_cell BK232.out 2).trans rfl, (blk_cell BK232.out 3).trans rfl, (blk_cell BK232.out 4).trans rfl, (blk_cell BK232.out 5).trans rfl⟩ (fun hHeld => ?_)
    clear hK K
    refine norm_ (a' := ?_) ?_ ?_
    rotate_left
    ·show Act.put _ (some 25) _ = _
     simp only [Act.put, List.setIfInBounds_toArray, List.set_cons_zero, List.set_cons_succ, i64_w, i32_w]
     rfl
    refine pure_ (i := 4) (N := some 26) (v := ?_) (a' := ?_) #[true, true, true, true, true] rfl rfl (by kernel_rfl) (fun _ _ _ h => h) (Or.inl ⟨by rfl, ?_⟩) ?_ ?_
    rotate_left
    ·intro w'
     go_simp
     with_reducible rfl
    rotate_left
    ·simp only [Act.put, List.setIfInBounds_toArray, List.set_cons_zero, List.set_cons_succ, i64_w, i32_w]
     rfl
    refine done_ (by kernel_rfl) ?_
    try go_wp2
    go_ret
    exact ⟨by first | rfl | (simp [errW_none, errW_some] <;> rfl) | (simp [*, errW_none, errW_some] <;> rfl), by repeat (first | (with_reducible first | exact HB.out | apply below_alloc | apply pw_below_drewN | apply below_drew1 | refine below_set ?_ GE232.out | refine below_set ?_ GE271.out) | exact HB.out)⟩
   ·replace c38 := Bool.eq_false_iff.mpr c38
    subst c38
    have H1 : (some false) = some r := by rw [if_neg (show ¬ (false = true) by decide)] at H; exact H
    clear H
    have H := H1
    clear H1
    obtain rfl := Option.some.inj H
    go_enter Try.func4, Try.ntmps4
    try go_wp2_with (first | ((with_reducible refine gate_dst (N := 1) rfl ?_); refine box_event ?hg (N := 1) ?hd (cs := #[.slice A0_0 l0_0.length c0_0, .slice A0_1 l0_1.length c0_1, .slice A0_2 l0_2.length c0_2, .slice A0_3 l0_3.length c0_3, .slice A0_4 l0_4.length c0_4, .slice A0_5 l0_5.length c0_5]) (t := 28) ?hr ?_; (case hd => rfl); (case hg => rfl); (case hr => first | (go_simp; done) | (go_simp; rfl)); intro gb232 hg w72 hbox hb; have n0_ := Aside0.mk (below_step (by repeat (first | (with_reducible first | exact HB.out | apply below_alloc | apply pw_below_drewN | apply below_drew1) | exact HB.out)) hb); have n1_ := Aside0.mk (hbox); have n2_ := Aside0.mk ((by rw [hg]; exact (below_size (by repeat (first | (with_reducible first | exact HB.out | apply below_alloc | apply pw_below_drewN | apply below_drew1) | exact HB.out))) : w.heap.size ≤ gb232)); have n3_ := Aside0.mk ((by rw [hg]; exact (below_size (by repeat (first | (with_reducible first | exact HB.out | apply below_alloc | apply pw_below_drewN | apply below_drew1) | exact HB.out))) : w.heap.size ≤ gb232)); clear HB; have HB := n0_; have BK232 := n1_; have GW232 := n2_; have GE232 := n3_; clear n0_ n1_ n2_ n3_; clear hb hbox hg; have hcz73_0 : w72.cell? ⟨gb232, 0, none⟩ = some (.slice A0_0 l0_0.length c0_0) := (blk_cell BK232.out 0).trans rfl; have hcz73_1 : w72.cell? ⟨gb232, 1, none⟩ = some (.slice A0_1 l0_1.length c0_1) := (blk_cell BK232.out 1).trans rfl; have hcz73_2 : w72.cell? ⟨gb232, 2, none⟩ = some (.slice A0_2 l0_2.length c0_2) := (blk_cell BK232.out 2).trans rfl; have hcz73_3 : w72.cell? ⟨gb232, 3, none⟩ = some (.slice A0_3 l0_3.length c0_3) := (blk_cell BK232.out 3).trans rfl; have hcz73_4 : w72.cell? ⟨gb232, 4, none⟩ = some (.slice A0_4 l0_4.length c0_4) := (blk_cell BK232.out 4).trans rfl; have hcz73_5 : w72.cell? ⟨gb232, 5, none⟩ = some (.slice A0_5 l0_5.length c0_5) := (blk_cell BK232.out 5).trans rfl; have hfz73_0 := blk_frozen BK232.out 0; have hfz73_1 := blk_frozen BK232.out 1; have hfz73_2 := blk_frozen BK232.out 2; have hfz73_3 := blk_frozen BK232.out 3; have hfz73_4 := blk_frozen BK232.out 4; have hfz73_5 := blk_frozen BK232.out 5) | ((with_reducible refine gate_callee (f := 8) rfl ?_); refine goesL_ (some 9) rfl rfl Try.func8 (by kernel_rfl) rfl #[.agg #[.slice A0_0 l0_0.length c0_0, .slice A0_1 l0_1.length c0_1, .slice A0_2 l0_2.length c0_2, .slice A0_3 l0_3.length c0_3, .slice A0_4 l0_4.length c0_4, .slice A0_5 l0_5.length c0_5], .int .i64 1048576] rfl (by (try simp only [List.map_toArray, List.map_cons, List.map_nil]); first | done | rfl | (simp only [List.length_drop, List.length_take]; rfl)) ?_; (with_reducible refine (laws_szNet.calls k _ _ l0_0 _ _ l0_1 _ _ l0_2 _ _ l0_3 _ _ l0_4 _ _ l0_5 1048576 t233 _ ?side1 ?side2 ?side3 ?side4 ?side5 ?side6 ?side7 ?side8 ?side9 ?side10 ?side11 ?side12 A2.out).mono ?_); (case side1 => repeat (first | exact (Kd.C_below HR0_0.out HB.out) | (with_reducible refine Kd.C_alloc ?_ _) | (with_reducible refine Kd.C_drewN ?_ _) | (with_reducible refine Kd.C_drew ?_))); (case side2 => exact HC0_0.out); (case side3 => repeat (first | exact (Kd.C_below HR0_1.out HB.out) | (with_reducible refine Kd.C_alloc ?_ _) | (with_reducible refine Kd.C_drewN ?_ _) | (with_reducible refine Kd.C_drew ?_))); (case side4 => exact HC0_1.out); (case side5 => repeat (first | exact (Kd.C_below HR0_2.out HB.out) | (with_reducible refine Kd.C_alloc ?_ _) | (with_reducible refine Kd.C_drewN ?_ _) | (with_reducible refine Kd.C_drew ?_))); (case side6 => exact HC0_2.out); (case side7 => repeat (first | exact (Kd.C_below HR0_3.out HB.out) | (with_reducible refine Kd.C_alloc ?_ _) | (with_reducible refine Kd.C_drewN ?_ _) | (with_reducible refine Kd.C_drew ?_))); (case side8 => exact HC0_3.out); (case side9 => repeat (first | exact (Kd.C_below HR0_4.out HB.out) | (with_reducible refine Kd.C_alloc ?_ _) | (with_reducible refine Kd.C_drewN ?_ _) | (with_reducible refine Kd.C_drew ?_))); (case side10 => exact HC0_4.out); (case side11 => repeat (first | exact (Kd.C_below HR0_5.out HB.out) | (with_reducible refine Kd.C_alloc ?_ _) | (with_reducible refine Kd.C_drewN ?_ _) | (with_reducible refine Kd.C_drew ?_))); (case side12 => exact HC0_5.out); rintro e w74 ⟨rfl, hb⟩; refine ⟨_, rfl, ?_⟩; have n0_ := Aside0.mk (blk_below (g := gb232) (o := .cells #[.slice A0_0 l0_0.length c0_0, .slice A0_1 l0_1.length c0_1, .slice A0_2 l0_2.length c0_2, .slice A0_3 l0_3.length c0_3, .slice A0_4 l0_4.length c0_4, .slice A0_5 l0_5.length c0_5] 28 (0, 0)) (by (with_reducible repeat (first | refine blk_drewN ?_ _ | refine blk_drew ?_ | refine blk_alloc ?_ _)); exact BK232.out) hb); have n1_ := Aside0.mk (below_step (by repeat (first | (with_reducible first | exact HB.out | apply below_alloc | apply pw_below_drewN | apply below_drew1 | refine below_set ?_ GE232.out) | exact HB.out)) hb); clear BK232; clear HB; have BK232 := n0_; have HB := n1_; clear n0_ n1_; (try clear hb); (try clear hb2); (try clear hk); (try clear hi); have hcz75_0 : w74.cell? ⟨gb232, 0, none⟩ = some (.slice A0_0 l0_0.length c0_0) := (blk_cell BK232.out 0).trans rfl; have hcz75_1 : w74.cell? ⟨gb232, 1, none⟩ = some (.slice A0_1 l0_1.length c0_1) := (blk_cell BK232.out 1).trans rfl; have hcz75_2 : w74.cell? ⟨gb232, 2, none⟩ = some (.slice A0_2 l0_2.length c0_2) := (blk_cell BK232.out 2).trans rfl; have hcz75_3 : w74.cell? ⟨gb232, 3, none⟩ = some (.slice A0_3 l0_3.length c0_3) := (blk_cell BK232.out 3).trans rfl; have hcz75_4 : w74.cell? ⟨gb232, 4, none⟩ = some (.slice A0_4 l0_4.length c0_4) := (blk_cell BK232.out 4).trans rfl; have hcz75_5 : w74.cell? ⟨gb232, 5, none⟩ = some (.slice A0_5 l0_5.length c0_5) := (blk_cell BK232.out 5).trans rfl; have hfz75_0 := blk_frozen BK232.out 0; have hfz75_1 := blk_frozen BK232.out 1; have hfz75_2 := blk_frozen BK232.out 2; have hfz75_3 := blk_frozen BK232.out 3; have hfz75_4 := blk_frozen BK232.out 4; have hfz75_5 := blk_frozen BK232.out 5) | ((with_reducible refine gate_callee (f := 10) rfl ?_); refine goesL_ (some 13) rfl rfl Try.func10 (by kernel_rfl) rfl #[.agg #[.slice A0_0 l0_0.length c0_0, .slice A0_1 l0_1.length c0_1, .slice A0_2 l0_2.length c0_2, .slice A0_3 l0_3.length c0_3, .slice A0_4 l0_4.length c0_4, .slice A0_5 l0_5.length c0_5]] rfl (by (try simp only [List.map_toArray, List.map_cons, List.map_nil]); first | done | rfl | (simp only [List.length_drop, List.length_take]; rfl)) ?_; (with_reducible refine (laws_toNet.calls k _ _ l0_0 _ _ l0_1 _ _ l0_2 _ _ l0_3 _ _ l0_4 _ _ l0_5 t234 t237 t240 t243 t246 t249 _ ?side1 ?side2 ?side3 ?side4 ?side5 ?side6 ?side7 ?side8 ?side9 ?side10 ?side11 ?side12 A7.out).mono ?_); (case side1 => repeat (first | exact (Kd.C_below HR0_0.out HB.out) | (with_reducible refine Kd.C_alloc ?_ _) | (with_reducible refine Kd.C_drewN ?_ _) | (with_reducible refine Kd.C_drew ?_))); (case side2 => exact HC0_0.out); (case side3 => repeat (first | exact (Kd.C_below HR0_1.out HB.out) | (with_reducible refine Kd.C_alloc ?_ _) | (with_reducible refine Kd.C_drewN ?_ _) | (with_reducible refine Kd.C_drew ?_))); (case side4 => exact HC0_1.out); (case side5 => repeat (first | exact (Kd.C_below HR0_2.out HB.out) | (with_reducible refine Kd.C_alloc ?_ _) | (with_reducible refine Kd.C_drewN ?_ _) | (with_reducible refine Kd.C_drew ?_))); (case side6 => exact HC0_2.out); (case side7 => repeat (first | exact (Kd.C_below HR0_3.out HB.out) | (with_reducible refine Kd.C_alloc ?_ _) | (with_reducible refine Kd.C_drewN ?_ _) | (with_reducible refine Kd.C_drew ?_))); (case side8 => exact HC0_3.out); (case side9 => repeat (first | exact (Kd.C_below HR0_4.out HB.out) | (with_reducible refine Kd.C_alloc ?_ _) | (with_reducible refine Kd.C_drewN ?_ _) | (with_reducible refine Kd.C_drew ?_))); (case side10 => exact HC0_4.out); (case side11 => repeat (first | exact (Kd.C_below HR0_5.out HB.out) | (with_reducible refine Kd.C_alloc ?_ _) | (with_reducible refine Kd.C_drewN ?_ _) | (with_reducible refine Kd.C_drew ?_))); (case side12 => exact HC0_5.out); rintro e w76 ⟨v235, v238, v241, v244, v247, v250, rfl, ho0, ho1, ho2, ho3, ho4, ho5, hb⟩; refine ⟨_, rfl, ?_⟩; have n0_ := Aside0.mk (Kd.R_lower ho0 (below_size (by repeat (first | (with_reducible first | exact HB.out | apply below_alloc | apply pw_below_drewN | apply below_drew1 | refine below_set ?_ GE232.out) | exact HB.out)))); have n1_ := Aside0.mk (Kd.R_lower ho1 (below_size (by repeat (first | (with_reducible first | exact HB.out | apply below_alloc | apply pw_below_drewN | apply below_drew1 | refine below_set ?_ GE232.out) | exact HB.out)))); have n2_ := Aside0.mk (Kd.R_lower ho2 (below_size (by repeat (first | (with_reducible first | exact HB.out | apply below_alloc | apply pw_below_drewN | apply below_drew1 | refine below_set ?_ GE232.out) | exact HB.out)))); have n3_ := Aside0.mk (Kd.R_lower ho3 (below_size (by repeat (first | (with_reducible first | exact HB.out | apply below_alloc | apply pw_below_drewN | apply below_drew1 | refine below_set ?_ GE232.out) | exact HB.out)))); have n4_ := Aside0.mk (Kd.R_lower ho4 (below_size (by repeat (first | (with_reducible first | exact HB.out | apply below_alloc | apply pw_below_drewN | apply below_drew1 | refine below_set ?_ GE232.out) | exact HB.out)))); have n5_ := Aside0.mk (Kd.R_lower ho5 (below_size (by repeat (first | (with_reducible first | exact HB.out | apply below_alloc | apply pw_below_drewN | apply below_drew1 | refine below_set ?_ GE232.out) | exact HB.out)))); have n6_ := Aside0.mk (blk_below (g := gb232) (o := .cells #[.slice A0_0 l0_0.length c0_0, .slice A0_1 l0_1.length c0_1, .slice A0_2 l0_2.length c0_2, .slice A0_3 l0_3.length c0_3, .slice A0_4 l0_4.length c0_4, .slice A0_5 l0_5.length c0_5] 28 (0, 0)) (by (with_reducible repeat (first | refine blk_drewN ?_ _ | refine blk_drew ?_ | refine blk_alloc ?_ _)); exact BK232.out) hb); have n7_ := Aside0.mk (below_step (by repeat (first | (with_reducible first | exact HB.out | apply below_alloc | apply pw_below_drewN | apply below_drew1 | refine below_set ?_ GE232.out) | exact HB.out)) hb); clear BK232; clear HB; have HO236 := n0_; have HO239 := n1_; have HO242 := n2_; have HO245 := n3_; have HO248 := n4_; have HO251 := n5_; have BK232 := n6_; have HB := n7_; clear n0_ n1_ n2_ n3_ n4_ n5_ n6_ n7_; (try clear hb); (try clear hb2); (try clear hk); (try clear hi); (try clear ho0); (try clear ho1); (try clear ho2); (try clear ho3); (try clear ho4); (try clear ho5); obtain ⟨Ao77, co77, eo77⟩ := Kd.R_slice HO236.out; subst eo77; obtain ⟨Ao78, co78, eo78⟩ := Kd.R_slice HO239.out; subst eo78; obtain ⟨Ao79, co79, eo79⟩ := Kd.R_slice HO242.out; subst eo79; obtain ⟨Ao80, co80, eo80⟩ := Kd.R_slice HO245.out; subst eo80; obtain ⟨Ao81, co81, eo81⟩ := Kd.R_slice HO248.out; subst eo81; obtain ⟨Ao82, co82, eo82⟩ := Kd.R_slice HO251.out; subst eo82) | ((with_reducible refine gate_callee (f := 23) rfl ?_); refine goesL_ (some 14) rfl rfl Try.func23 (by kernel_rfl) rfl #[.agg #[.slice Ao77 t234.length co77, .slice Ao78 t237.length co78, .slice Ao79 t240.length co79, .slice Ao80 t243.length co80, .slice Ao81 t246.length co81, .slice Ao82 t249.length co82]] rfl (by (try simp only [List.map_toArray, List.map_cons, List.map_nil]); first | done | rfl | (simp only [List.length_drop, List.length_take]; rfl)) ?_; (with_reducible refine (spec_NetOK.calls k _ _ t234 _ _ t237 _ _ t240 _ _ t243 _ _ t246 _ _ t249 t252 _ ?side1 ?side2 ?side3 ?side4 ?side5 ?side6 ?side7 ?side8 ?side9 ?side10 ?side11 ?side12 A8.out).mono ?_); (case side1 => repeat (first | exact (Kd.R_reads' HO236.out).2.2 | (with_reducible refine Kd.C_alloc ?_ _) | (with_reducible refine Kd.C_drewN ?_ _) | (with_reducible refine Kd.C_drew ?_))); (case side2 => exact (Kd.R_reads' HO236.out).2.1); (case side3 => repeat (first | exact (Kd.R_reads' HO239.out).2.2 | (with_reducible refine Kd.C_alloc ?_ _) | (with_reducible refine Kd.C_drewN ?_ _) | (with_reducible refine Kd.C_drew ?_))); (case side4 => exact (Kd.R_reads' HO239.out).2.1); (case side5 => repeat (first | exact (Kd.R_reads' HO242.out).2.2 | (with_reducible refine Kd.C_alloc ?_ _) | (with_reducible refine Kd.C_drewN ?_ _) | (with_reducible refine Kd.C_drew ?_))); (case side6 => exact (Kd.R_reads' HO242.out).2.1); (case side7 => repeat (first | exact (Kd.R_reads' HO245.out).2.2 | (with_reducible refine Kd.C_alloc ?_ _) | (with_reducible refine Kd.C_drewN ?_ _) | (with_reducible refine Kd.C_drew ?_))); (case side8 => exact (Kd.R_reads' HO245.out).2.1); (case side9 => repeat (first | exact (Kd.R_reads' HO248.out).2.2 | (with_reducible refine Kd.C_alloc ?_ _) | (with_reducible refine Kd.C_drewN ?_ _) | (with_reducible refine Kd.C_drew ?_))); (case side10 => exact (Kd.R_reads' HO248.out).2.1); (case side11 => repeat (first | exact (Kd.R_reads' HO251.out).2.2 | (with_reducible refine Kd.C_alloc ?_ _) | (with_reducible refine Kd.C_drewN ?_ _) | (with_reducible refine Kd.C_drew ?_))); (case side12 => exact (Kd.R_reads' HO251.out).2.1); rintro e w83 ⟨rfl, hb⟩; refine ⟨_, rfl, ?_⟩; have n0_ := Aside0.mk (Kd.R_below (by (with_reducible repeat (first | apply Kd.R_alloc | apply Kd.R_drewN | apply Kd.R_drew)); exact HO236.out) hb); have n1_ := Aside0.mk (Kd.R_below (by (with_reducible repeat (first | apply Kd.R_alloc | apply Kd.R_drewN | apply Kd.R_drew)); exact HO239.out) hb); have n2_ := Aside0.mk (Kd.R_below (by (with_reducible repeat (first | apply Kd.R_alloc | apply Kd.R_drewN | apply Kd.R_drew)); exact HO242.out) hb); have n3_ := Aside0.mk (Kd.R_below (by (with_reducible repeat (first | apply Kd.R_alloc | apply Kd.R_drewN | apply Kd.R_drew)); exact HO245.out) hb); have n4_ := Aside0.mk (Kd.R_below (by (with_reducible repeat (first | apply Kd.R_alloc | apply Kd.R_drewN | apply Kd.R_drew)); exact HO248.out) hb); have n5_ := Aside0.mk (Kd.R_below (by (with_reducible repeat (first | apply Kd.R_alloc | apply Kd.R_drewN | apply Kd.R_drew)); exact HO251.out) hb); have n6_ := Aside0.mk (blk_below (g := gb232) (o := .cells #[.slice A0_0 l0_0.length c0_0, .slice A0_1 l0_1.length c0_1, .slice A0_2 l0_2.length c0_2, .slice A0_3 l0_3.length c0_3, .slice A0_4 l0_4.length c0_4, .slice A0_5 l0_5.length c0_5] 28 (0, 0)) (by (with_reducible repeat (first | refine blk_drewN ?_ _ | refine blk_drew ?_ | refine blk_alloc ?_ _)); exact BK232.out) hb); have n7_ := Aside0.mk (below_step (by repeat (first | (with_reducible first | exact HB.out | apply below_alloc | apply pw_below_drewN | apply below_drew1 | refine below_set ?_ GE232.out) | exact HB.out)) hb); clear HO236; clear HO239; clear HO242; clear HO245; clear HO248; clear HO251; clear BK232; clear HB; have HO236 := n0_; have HO239 := n1_; have HO242 := n2_; have HO245 := n3_; have HO248 := n4_; have HO251 := n5_; have BK232 := n6_; have HB := n7_; clear n0_ n1_ n2_ n3_ n4_ n5_ n6_ n7_; (try clear hb); (try clear hb2); (try clear hk); (try clear hi); have hcz84_0 : w83.cell? ⟨gb232, 0, none⟩ = some (.slice A0_0 l0_0.length c0_0) := (blk_cell BK232.out 0).trans rfl; have hcz84_1 : w83.cell? ⟨gb232, 1, none⟩ = some (.slice A0_1 l0_1.length c0_1) := (blk_cell BK232.out 1).trans rfl; have hcz84_2 : w83.cell? ⟨gb232, 2, none⟩ = some (.slice A0_2 l0_2.length c0_2) := (blk_cell BK232.out 2).trans rfl; have hcz84_3 : w83.cell? ⟨gb232, 3, none⟩ = some (.slice A0_3 l0_3.length c0_3) := (blk_cell BK232.out 3).trans rfl; have hcz84_4 : w83.cell? ⟨gb232, 4, none⟩ = some (.slice A0_4 l0_4.length c0_4) := (blk_cell BK232.out 4).trans rfl; have hcz84_5 : w83.cell? ⟨gb232, 5, none⟩ = some (.slice A0_5 l0_5.length c0_5) := (blk_cell BK232.out 5).trans rfl; have hfz84_0 := blk_frozen BK232.out 0; have hfz84_1 := blk_frozen BK232.out 1; have hfz84_2 := blk_frozen BK232.out 2; have hfz84_3 := blk_frozen BK232.out 3; have hfz84_4 := blk_frozen BK232.out 4; have hfz84_5 := blk_frozen BK232.out 5) | ((with_reducible refine gate_callee (f := 10) rfl ?_); refine goesL_ (some 16) rfl rfl Try.func10 (by kernel_rfl) rfl #[.agg #[.slice A0_0 l0_0.length c0_0, .slice A0_1 l0_1.length c0_1, .slice A0_2 l0_2.length c0_2, .slice A0_3 l0_3.length c0_3, .slice A0_4 l0_4.length c0_4, .slice A0_5 l0_5.length c0_5]] rfl (by (try simp only [List.map_toArray, List.map_cons, List.map_nil]); first | done | rfl | (simp only [List.length_drop, List.length_take]; rfl)) ?_; (with_reducible refine (laws_toNet.calls k _ _ l0_0 _ _ l0_1 _ _ l0_2 _ _ l0_3 _ _ l0_4 _ _ l0_5 t253 t256 t259 t262 t265 t268 _ ?side1 ?side2 ?side3 ?side4 ?side5 ?side6 ?side7 ?side8 ?side9 ?side10 ?side11 ?side12 A9.out).mono ?_); (case side1 => repeat (first | exact (Kd.C_below HR0_0.out HB.out) | (with_reducible refine Kd.C_alloc ?_ _) | (with_reducible refine Kd.C_drewN ?_ _) | (with_reducible refine Kd.C_drew ?_))); (case side2 => exact HC0_0.out); (case side3 => repeat (first | exact (Kd.C_below HR0_1.out HB.out) | (with_reducible refine Kd.C_alloc ?_ _) | (with_reducible refine Kd.C_drewN ?_ _) | (with_reducible refine Kd.C_drew ?_))); (case side4 => exact HC0_1.out); (case side5 => repeat (first | exact (Kd.C_below HR0_2.out HB.out) | (with_reducible refine Kd.C_alloc ?_ _) | (with_reducible refine Kd.C_drewN ?_ _) | (with_reducible refine Kd.C_drew ?_))); (case side6 => exact HC0_2.out); (case side7 => repeat (first | exact (Kd.C_below HR0_3.out HB.out) | (with_reducible refine Kd.C_alloc ?_ _) | (with_reducible refine Kd.C_drewN ?_ _) | (with_reducible refine Kd.C_drew ?_))); (case side8 => exact HC0_3.out); (case side9 => repeat (first | exact (Kd.C_below HR0_4.out HB.out) | (with_reducible refine Kd.C_alloc ?_ _) | (with_reducible refine Kd.C_drewN ?_ _) | (with_reducible refine Kd.C_drew ?_))); (case side10 => exact HC0_4.out); (case side11 => repeat (first | exact (Kd.C_below HR0_5.out HB.out) | (with_reducible refine Kd.C_alloc ?_ _) | (with_reducible refine Kd.C_drewN ?_ _) | (with_reducible refine Kd.C_drew ?_))); (case side12 => exact HC0_5.out); rintro e w85 ⟨v254, v257, v260, v263, v266, v269, rfl, ho0, ho1, ho2, ho3, ho4, ho5, hb⟩; refine ⟨_, rfl, ?_⟩; have n0_ := Aside0.mk (Kd.R_elder' (by (with_reducible repeat (first | apply Kd.R_alloc | apply Kd.R_drewN | apply Kd.R_drew)); exact HO236.out) (Kd.R_base ho0) hb); have n1_ := Aside0.mk (Kd.R_elder' (by (with_reducible repeat (first | apply Kd.R_alloc | apply Kd.R_drewN | apply Kd.R_drew)); exact HO239.out) (Kd.R_base ho1) hb); have n2_ := Aside0.mk (Kd.R_mono (Kd.R_told (Kd.R_told (Kd.R_old (by (with_reducible repeat (first | apply Kd.R_alloc | apply Kd.R_drewN | apply Kd.R_drew)); exact HO242.out) hb) (Kd.R_base ho2)) (Kd.R_base ho3)) (fun _ h_ => h_.1)); have n3_ := Aside0.mk (Kd.R_mono (Kd.R_told (Kd.R_told (Kd.R_old (by (with_reducible repeat (first | apply Kd.R_alloc | apply Kd.R_drewN | apply Kd.R_drew)); exact HO245.out) hb) (Kd.R_base ho2)) (Kd.R_base ho3)) (fun _ h_ => h_.1)); have n4_ := Aside0.mk (Kd.R_elder' (by (with_reducible repeat (first | apply Kd.R_alloc | apply Kd.R_drewN | apply Kd.R_drew)); exact HO248.out) (Kd.R_base ho4) hb); have n5_ := Aside0.mk (Kd.R_elder' (by (with_reducible repeat (first | apply Kd.R_alloc | apply Kd.R_drewN | apply Kd.R_drew)); exact HO251.out) (Kd.R_base ho5) hb); have n6_ := Aside0.mk (Kd.R_lower (Kd.R_new' ho0 (Kd.R_lt (by (with_reducible repeat (first | apply Kd.R_alloc | apply Kd.R_drewN | apply Kd.R_drew)); exact HO236.out))) (below_size (by repeat (first | (with_reducible first | exact HB.out | apply below_alloc | apply pw_below_drewN | apply below_drew1 | refine below_set ?_ GE232.out) | exact HB.out)))); have n7_ := Aside0.mk (Kd.R_lower (Kd.R_new' ho1 (Kd.R_lt (by (with_reducible repeat (first | apply Kd.R_alloc | apply Kd.R_drewN | apply Kd.R_drew)); exact HO239.out))) (below_size (by repeat (first | (with_reducible first | exact HB.out | apply below_alloc | apply pw_below_drewN | apply below_drew1 | refine below_set ?_ GE232.out) | exact HB.out)))); have n8_ := Aside0.mk (Kd.R_lower (Kd.R_new' (Kd.R_new' ho2 (Kd.R_lt (by (with_reducible repeat (first | apply Kd.R_alloc | apply Kd.R_drewN | apply Kd.R_drew)); exact HO242.out))) (Kd.R_lt (by (with_reducible repeat (first | apply Kd.R_alloc | apply Kd.R_drewN | apply Kd.R_drew)); exact HO245.out))) (below_size (by repeat (first | (with_reducible first | exact HB.out | apply below_alloc | apply pw_below_drewN | apply below_drew1 | refine below_set ?_ GE232.out) | exact HB.out)))); have n9_ := Aside0.mk (Kd.R_lower (Kd.R_new' (Kd.R_new' ho3 (Kd.R_lt (by (with_reducible repeat (first | apply Kd.R_alloc | apply Kd.R_drewN | apply Kd.R_drew)); exact HO242.out))) (Kd.R_lt (by (with_reducible repeat (first | apply Kd.R_alloc | apply Kd.R_drewN | apply Kd.R_drew)); exact HO245.out))) (below_size (by repeat (first | (with_reducible first | exact HB.out | apply below_alloc | apply pw_below_drewN | apply below_drew1 | refine below_set ?_ GE232.out) | exact HB.out)))); have n10_ := Aside0.mk (Kd.R_lower (Kd.R_new' ho4 (Kd.R_lt (by (with_reducible repeat (first | apply Kd.R_alloc | apply Kd.R_drewN | apply Kd.R_drew)); exact HO248.out))) (below_size (by repeat (first | (with_reducible first | exact HB.out | apply below_alloc | apply pw_below_drewN | apply below_drew1 | refine below_set ?_ GE232.out) | exact HB.out)))); have n11_ := Aside0.mk (Kd.R_lower (Kd.R_new' ho5 (Kd.R_lt (by (with_reducible repeat (first | apply Kd.R_alloc | apply Kd.R_drewN | apply Kd.R_drew)); exact HO251.out))) (below_size (by repeat (first | (with_reducible first | exact HB.out | apply below_alloc | apply pw_below_drewN | apply below_drew1 | refine below_set ?_ GE232.out) | exact HB.out)))); have n12_ := Aside0.mk (blk_below (g := gb232) (o := .cells #[.slice A0_0 l0_0.length c0_0, .slice A0_1 l0_1.length c0_1, .slice A0_2 l0_2.length c0_2, .slice A0_3 l0_3.length c0_3, .slice A0_4 l0_4.length c0_4, .slice A0_5 l0_5.length c0_5] 28 (0, 0)) (by (with_reducible repeat (first | refine blk_drewN ?_ _ | refine blk_drew ?_ | refine blk_alloc ?_ _)); exact BK232.out) hb); have n13_ := Aside0.mk (below_step (by repeat (first | (with_reducible first | exact HB.out | apply below_alloc | apply pw_below_drewN | apply below_drew1 | refine below_set ?_ GE232.out) | exact HB.out)) hb); clear HO236; clear HO239; clear HO242; clear HO245; clear HO248; clear HO251; clear BK232; clear HB; have HO236 := n0_; have HO239 := n1_; have HO242 := n2_; have HO245 := n3_; have HO248 := n4_; have HO251 := n5_; have HO255 := n6_; have HO258 := n7_; have HO261 := n8_; have HO264 := n9_; have HO267 := n10_; have HO270 := n11_; have BK232 := n12_; have HB := n13_; clear n0_ n1_ n2_ n3_ n4_ n5_ n6_ n7_ n8_ n9_ n10_ n11_ n12_ n13_; (try clear hb); (try clear hb2); (try clear hk); (try clear hi); (try clear ho0); (try clear ho1); (try clear ho2); (try clear ho3); (try clear ho4); (try clear ho5)) | ((with_reducible refine gate_dst (N := 5) rfl ?_); refine box_event ?hg (N := 5) ?hd (cs := #[.slice none 0 0, .slice none 0 0, .slice none 0 0, .slice none 0 0, .slice none 0 0, .slice none 0 0]) (t := 38) ?hr ?_; (case hd => rfl); (case hg => rfl); (case hr => first | (go_simp; done) | (go_simp; rfl)); intro gb271 hg w86 hbox hb; have n0_ := Aside0.mk (Kd.R_below (by (with_reducible repeat (first | apply Kd.R_alloc | apply Kd.R_drewN | apply Kd.R_drew)); exact HO236.out) hb); have n1_ := Aside0.mk (Kd.R_below (by (with_reducible repeat (first | apply Kd.R_alloc | apply Kd.R_drewN | apply Kd.R_drew)); exact HO239.out) hb); have n2_ := Aside0.mk (Kd.R_below (by (with_reducible repeat (first | apply Kd.R_alloc | apply Kd.R_drewN | apply Kd.R_drew)); exact HO242.out) hb); have n3_ := Aside0.mk (Kd.R_below (by (with_reducible repeat (first | apply Kd.R_alloc | apply Kd.R_drewN | apply Kd.R_drew)); exact HO245.out) hb); have n4_ := Aside0.mk (Kd.R_below (by (with_reducible repeat (first | apply Kd.R_alloc | apply Kd.R_drewN | apply Kd.R_drew)); exact HO248.out) hb); have n5_ := Aside0.mk (Kd.R_below (by (with_reducible repeat (first | apply Kd.R_alloc | apply Kd.R_drewN | apply Kd.R_drew)); exact HO251.out) hb); have n6_ := Aside0.mk (Kd.R_below (by (with_reducible repeat (first | apply Kd.R_alloc | apply Kd.R_drewN | apply Kd.R_drew)); exact HO255.out) hb); have n7_ := Aside0.mk (Kd.R_below (by (with_reducible repeat (first | apply Kd.R_alloc | apply Kd.R_drewN | apply Kd.R_drew)); exact HO258.out) hb); have n8_ := Aside0.mk (Kd.R_below (by (with_reducible repeat (first | apply Kd.R_alloc | apply Kd.R_drewN | apply Kd.R_drew)); exact HO261.out) hb); have n9_ := Aside0.mk (Kd.R_below (by (with_reducible repeat (first | apply Kd.R_alloc | apply Kd.R_drewN | apply Kd.R_drew)); exact HO264.out) hb); have n10_ := Aside0.mk (Kd.R_below (by (with_reducible repeat (first | apply Kd.R_alloc | apply Kd.R_drewN | apply Kd.R_drew)); exact HO267.out) hb); have n11_ := Aside0.mk (Kd.R_below (by (with_reducible repeat (first | apply Kd.R_alloc | apply Kd.R_drewN | apply Kd.R_drew)); exact HO270.out) hb); have n12_ := Aside0.mk (blk_below (g := gb232) (o := .cells #[.slice A0_0 l0_0.length c0_0, .slice A0_1 l0_1.length c0_1, .slice A0_2 l0_2.length c0_2, .slice A0_3 l0_3.length c0_3, .slice A0_4 l0_4.length c0_4, .slice A0_5 l0_5.length c0_5] 28 (0, 0)) (by (with_reducible repeat (first | refine blk_drewN ?_ _ | refine blk_drew ?_ | refine blk_alloc ?_ _)); exact BK232.out) hb); have n13_ := Aside0.mk (below_step (by repeat (first | (with_reducible first | exact HB.out | apply below_alloc | apply pw_below_drewN | apply below_drew1 | refine below_set ?_ GE232.out) | exact HB.out)) hb); have n14_ := Aside0.mk (hbox); have n15_ := Aside0.mk ((by rw [hg]; exact (below_size (by repeat (first | (with_reducible first | exact HB.out | apply below_alloc | apply pw_below_drewN | apply below_drew1 | refine below_set ?_ GE232.out) | exact HB.out))) : w.heap.size ≤ gb271)); have n16_ := Aside0.mk ((by rw [hg]; exact (below_size (by repeat (first | (with_reducible first | exact HB.out | apply below_alloc | apply pw_below_drewN | apply below_drew1 | refine below_set ?_ GE232.out) | exact HB.out))) : w.heap.size ≤ gb271)); have n17_ := Aside0.mk ((by rw [hg]; exact Nat.ne_of_lt (blk_lt (g := gb232) (o := .cells #[.slice A0_0 l0_0.length c0_0, .slice A0_1 l0_1.length c0_1, .slice A0_2 l0_2.length c0_2, .slice A0_3 l0_3.length c0_3, .slice A0_4 l0_4.length c0_4, .slice A0_5 l0_5.length c0_5] 28 (0, 0)) (by (with_reducible repeat (first | refine blk_drewN ?_ _ | refine blk_drew ?_ | refine blk_alloc ?_ _)); exact BK232.out)) : gb232 ≠ gb271)); have n18_ := Aside0.mk ((by rw [hg]; exact Nat.ne_of_gt (blk_lt (g := gb232) (o := .cells #[.slice A0_0 l0_0.length c0_0, .slice A0_1 l0_1.length c0_1, .slice A0_2 l0_2.length c0_2, .slice A0_3 l0_3.length c0_3, .slice A0_4 l0_4.length c0_4, .slice A0_5 l0_5.length c0_5] 28 (0, 0)) (by (with_reducible repeat (first | refine blk_drewN ?_ _ | refine blk_drew ?_ | refine blk_alloc ?_ _)); exact BK232.out)) : gb271 ≠ gb232)); clear HO236; clear HO239; clear HO242; clear HO245; clear HO248; clear HO251; clear HO255; clear HO258; clear HO261; clear HO264; clear HO267; clear HO270; clear BK232; clear HB; have HO236 := n0_; have HO239 := n1_; have HO242 := n2_; have HO245 := n3_; have HO248 := n4_; have HO251 := n5_; have HO255 := n6_; have HO258 := n7_; have HO261 := n8_; have HO264 := n9_; have HO267 := n10_; have HO270 := n11_; have BK232 := n12_; have HB := n13_; have BK271 := n14_; have GW271 := n15_; have GE271 := n16_; have NB232_271 := n17_; have NB271_232 := n18_; clear n0_ n1_ n2_ n3_ n4_ n5_ n6_ n7_ n8_ n9_ n10_ n11_ n12_ n13_ n14_ n15_ n16_ n17_ n18_; clear hb hbox hg; obtain ⟨Ao87, co87, eo87⟩ := Kd.R_slice HO255.out; subst eo87; have hnb88 := NB271_232.out; have hnc88 := NB232_271.out; have hcz89_0 : w86.cell? ⟨gb271, 0, none⟩ = some (.slice none 0 0) := (blk_cell BK271.out 0).trans rfl; have hcz89_1 : w86.cell? ⟨gb271, 1, none⟩ = some (.slice none 0 0) := (blk_cell BK271.out 1).trans rfl; have hcz89_2 : w86.cell? ⟨gb271, 2, none⟩ = some (.slice none 0 0) := (blk_cell BK271.out 2).trans rfl; have hcz89_3 : w86.cell? ⟨gb271, 3, none⟩ = some (.slice none 0 0) := (blk_cell BK271.out 3).trans rfl; have hcz89_4 : w86.cell? ⟨gb271, 4, none⟩ = some (.slice none 0 0) := (blk_cell BK271.out 4).trans rfl; have hcz89_5 : w86.cell? ⟨gb271, 5, none⟩ = some (.slice none 0 0) := (blk_cell BK271.out 5).trans rfl; have hfz89_0 := blk_frozen BK271.out 0; have hfz89_1 := blk_frozen BK271.out 1; have hfz89_2 := blk_frozen BK271.out 2; have hfz89_3 := blk_frozen BK271.out 3; have hfz89_4 := blk_frozen BK271.out 4; have hfz89_5 := blk_frozen BK271.out 5; obtain ⟨Ao90, co90, eo90⟩ := Kd.R_slice HO258.out; subst eo90; obtain ⟨Ao91, co91, eo91⟩ := Kd.R_slice HO261.out; subst eo91; obtain ⟨Ao92, co92, eo92⟩ := Kd.R_slice HO264.out; subst eo92; obtain ⟨Ao93, co93, eo93⟩ := Kd.R_slice HO267.out; subst eo93; obtain ⟨Ao94, co94, eo94⟩ := Kd.R_slice HO270.out; subst eo94) | ((with_reducible refine gate_callee (f := 24) rfl ?_); refine goesL_ (some 18) rfl rfl Try.func24 (by kernel_rfl) rfl #[.agg #[.slice Ao87 t253.length co87, .slice Ao90 t256.length co90, .slice Ao91 t259.length co91, .slice Ao92 t262.length co92, .slice Ao93 t265.length co93, .slice Ao94 t268.length co94]] rfl (by (try simp only [List.map_toArray, List.map_cons, List.map_nil]); first | done | rfl | (simp only [List.length_drop, List.length_take]; rfl)) ?_; (with_reducible refine (impl_NetOK.calls k _ _ t253 _ _ t256 _ _ t259 _ _ t262 _ _ t265 _ _ t268 t272 _ ?side1 ?side2 ?side3 ?side4 ?side5 ?side6 ?side7 ?side8 ?side9 ?side10 ?side11 ?side12 A10.out).mono ?_); (case side1 => refine (Kd.R_reads' (e := 9) (base := w.heap.size) (ok := fun k_ => (True ∧ some k_ ≠ (.slice Ao77 t234.length co77 : Value).ownBlock)) (n := t253.length) (c := co87) ?_).2.2; exact (by (with_reducible repeat (first | apply Kd.R_alloc | apply Kd.R_drewN | apply Kd.R_drew)); exact (Kd.R_mono (Kd.R_far (p := ⟨gb271, 5, none⟩) (Kd.R_far (p := ⟨gb271, 4, none⟩) (Kd.R_far (p := ⟨gb271, 3, none⟩) (Kd.R_far (p := ⟨gb271, 2, none⟩) (Kd.R_far (p := ⟨gb271, 1, none⟩) (Kd.R_far (p := ⟨gb271, 0, none⟩) (Kd.R_types HO255.out BK271.out (by decide)) (fun _ hk => hk.2) (.slice Ao87 t253.length co87)) (fun _ hk => hk.2) (.slice Ao90 t256.length co90)) (fun _ hk => hk.2) (.slice Ao91 t259.length co91)) (fun _ hk => hk.2) (.slice Ao92 t262.length co92)) (fun _ hk => hk.2) (.slice Ao93 t265.length co93)) (fun _ hk => hk.2) (.slice Ao94 t268.length co94)) (fun _ h_ => h_.1)))); (case side2 => exact (Kd.R_reads' HO255.out).2.1); (case side3 => refine (Kd.R_reads' (e := 92) (base := w.heap.size) (ok := fun k_ => (True ∧ some k_ ≠ (.slice Ao78 t237.length co78 : Value).ownBlock)) (n := t256.length) (c := co90) ?_).2.2; exact (by (with_reducible repeat (first | apply Kd.R_alloc | apply Kd.R_drewN | apply Kd.R_drew)); exact (Kd.R_mono (Kd.R_far (p := ⟨gb271, 5, none⟩) (Kd.R_far (p := ⟨gb271, 4, none⟩) (Kd.R_far (p := ⟨gb271, 3, none⟩) (Kd.R_far (p := ⟨gb271, 2, none⟩) (Kd.R_far (p := ⟨gb271, 1, none⟩) (Kd.R_far (p := ⟨gb271, 0, none⟩) (Kd.R_types HO258.out BK271.out (by decide)) (fun _ hk => hk.2) (.slice Ao87 t253.length co87)) (fun _ hk => hk.2) (.slice Ao90 t256.length co90)) (fun _ hk => hk.2) (.slice Ao91 t259.length co91)) (fun _ hk => hk.2) (.slice Ao92 t262.length co92)) (fun _ hk => hk.2) (.slice Ao93 t265.length co93)) (fun _ hk => hk.2) (.slice Ao94 t268.length co94)) (fun _ h_ => h_.1)))); (case side4 => exact (Kd.R_reads' HO258.out).2.1); (case side5 => refine (Kd.R_reads' (e := 3) (base := w.heap.size) (ok := fun k_ => ((some k_ ≠ (.slice Ao92 t262.length co92 : Value).ownBlock ∧ some k_ ≠ (.slice Ao79 t240.length co79 : Value).ownBlock) ∧ some k_ ≠ (.slice Ao80 t243.length co80 : Value).ownBlock)) (n := t259.length) (c := co91) ?_).2.2; exact (by (with_reducible repeat (first | apply Kd.R_alloc | apply Kd.R_drewN | apply Kd.R_drew)); exact (Kd.R_mono (Kd.R_far (p := ⟨gb271, 5, none⟩) (Kd.R_far (p := ⟨gb271, 4, none⟩) (Kd.R_far (p := ⟨gb271, 3, none⟩) (Kd.R_far (p := ⟨gb271, 2, none⟩) (Kd.R_far (p := ⟨gb271, 1, none⟩) (Kd.R_far (p := ⟨gb271, 0, none⟩) (Kd.R_types HO261.out BK271.out (by decide)) (fun _ hk => hk.2) (.slice Ao87 t253.length co87)) (fun _ hk => hk.2) (.slice Ao90 t256.length co90)) (fun _ hk => hk.2) (.slice Ao91 t259.length co91)) (fun _ hk => hk.2) (.slice Ao92 t262.length co92)) (fun _ hk => hk.2) (.slice Ao93 t265.length co93)) (fun _ hk => hk.2) (.slice Ao94 t268.length co94)) (fun _ h_ => h_.1)))); (case side6 => exact (Kd.R_reads' HO261.out).2.1); (case side7 => refine (Kd.R_reads' (e := 3) (base := w.heap.size) (ok := fun k_ => ((some k_ ≠ (.slice Ao91 t259.length co91 : Value).ownBlock ∧ some k_ ≠ (.slice Ao79 t240.length co79 : Value).ownBlock) ∧ some k_ ≠ (.slice Ao80 t243.length co80 : Value).ownBlock)) (n := t262.length) (c := co92) ?_).2.2; exact (by (with_reducible repeat (first | apply Kd.R_alloc | apply Kd.R_drewN | apply Kd.R_drew)); exact (Kd.R_mono (Kd.R_far (p := ⟨gb271, 5, none⟩) (Kd.R_far (p := ⟨gb271, 4, none⟩) (Kd.R_far (p := ⟨gb271, 3, none⟩) (Kd.R_far (p := ⟨gb271, 2, none⟩) (Kd.R_far (p := ⟨gb271, 1, none⟩) (Kd.R_far (p := ⟨gb271, 0, none⟩) (Kd.R_types HO264.out BK271.out (by decide)) (fun _ hk => hk.2) (.slice Ao87 t253.length co87)) (fun _ hk => hk.2) (.slice Ao90 t256.length co90)) (fun _ hk => hk.2) (.slice Ao91 t259.length co91)) (fun _ hk => hk.2) (.slice Ao92 t262.length co92)) (fun _ hk => hk.2) (.slice Ao93 t265.length co93)) (fun _ hk => hk.2) (.slice Ao94 t268.length co94)) (fun _ h_ => h_.1)))); (case side8 => exact (Kd.R_reads' HO264.out).2.1); (case side9 => refine (Kd.R_reads' (e := 95) (base := w.heap.size) (ok := fun k_ => (True ∧ some k_ ≠ (.slice Ao81 t246.length co81 : Value).ownBlock)) (n := t265.length) (c := co93) ?_).2.2; exact (by (with_reducible repeat (first | apply Kd.R_alloc | apply Kd.R_drewN | apply Kd.R_drew)); exact (Kd.R_mono (Kd.R_far (p := ⟨gb271, 5, none⟩) (Kd.R_far (p := ⟨gb271, 4, none⟩) (Kd.R_far (p := ⟨gb271, 3, none⟩) (Kd.R_far (p := ⟨gb271, 2, none⟩) (Kd.R_far (p := ⟨gb271, 1, none⟩) (Kd.R_far (p := ⟨gb271, 0, none⟩) (Kd.R_types HO267.out BK271.out (by decide)) (fun _ hk => hk.2) (.slice Ao87 t253.length co87)) (fun _ hk => hk.2) (.slice Ao90 t256.length co90)) (fun _ hk => hk.2) (.slice Ao91 t259.length co91)) (fun _ hk => hk.2) (.slice Ao92 t262.length co92)) (fun _ hk => hk.2) (.slice Ao93 t265.length co93)) (fun _ hk => hk.2) (.slice Ao94 t268.length co94)) (fun _ h_ => h_.1)))); (case side10 => exact (Kd.R_reads' HO267.out).2.1); (case side11 => refine (Kd.R_reads' (e := 97) (base := w.heap.size) (ok := fun k_ => (True ∧ some k_ ≠ (.slice Ao82 t249.length co82 : Value).ownBlock)) (n := t268.length) (c := co94) ?_).2.2; exact (by (with_reducible repeat (first | apply Kd.R_alloc | apply Kd.R_drewN | apply Kd.R_drew)); exact (Kd.R_mono (Kd.R_far (p := ⟨gb271, 5, none⟩) (Kd.R_far (p := ⟨gb271, 4, none⟩) (Kd.R_far (p := ⟨gb271, 3, none⟩) (Kd.R_far (p := ⟨gb271, 2, none⟩) (Kd.R_far (p := ⟨gb271, 1, none⟩) (Kd.R_far (p := ⟨gb271, 0, none⟩) (Kd.R_types HO270.out BK271.out (by decide)) (fun _ hk => hk.2) (.slice Ao87 t253.length co87)) (fun _ hk => hk.2) (.slice Ao90 t256.length co90)) (fun _ hk => hk.2) (.slice Ao91 t259.length co91)) (fun _ hk => hk.2) (.slice Ao92 t262.length co92)) (fun _ hk => hk.2) (.slice Ao93 t265.length co93)) (fun _ hk => hk.2) (.slice Ao94 t268.length co94)) (fun _ h_ => h_.1)))); (case side12 => exact (Kd.R_reads' HO270.out).2.1); rintro e w95 ⟨rfl, hb⟩; refine ⟨_, rfl, ?_⟩; have n0_ := Aside0.mk (Kd.R_below (by (with_reducible repeat (first | apply Kd.R_alloc | apply Kd.R_drewN | apply Kd.R_drew)); exact (Kd.R_mono (Kd.R_far (p := ⟨gb271, 5, none⟩) (Kd.R_far (p := ⟨gb271, 4, none⟩) (Kd.R_far (p := ⟨gb271, 3, none⟩) (Kd.R_far (p := ⟨gb271, 2, none⟩) (Kd.R_far (p := ⟨gb271, 1, none⟩) (Kd.R_far (p := ⟨gb271, 0, none⟩) (Kd.R_types HO236.out BK271.out (by decide)) (fun _ hk => hk.2) (.slice Ao87 t253.length co87)) (fun _ hk => hk.2) (.slice Ao90 t256.length co90)) (fun _ hk => hk.2) (.slice Ao91 t259.length co91)) (fun _ hk => hk.2) (.slice Ao92 t262.length co92)) (fun _ hk => hk.2) (.slice Ao93 t265.length co93)) (fun _ hk => hk.2) (.slice Ao94 t268.length co94)) (fun _ h_ => h_.1))) hb); have n1_ := Aside0.mk (Kd.R_below (by (with_reducible repeat (first | apply Kd.R_alloc | apply Kd.R_drewN | apply Kd.R_drew)); exact (Kd.R_mono (Kd.R_far (p := ⟨gb271, 5, none⟩) (Kd.R_far (p := ⟨gb271, 4, none⟩) (Kd.R_far (p := ⟨gb271, 3, none⟩) (Kd.R_far (p := ⟨gb271, 2, none⟩) (Kd.R_far (p := ⟨gb271, 1, none⟩) (Kd.R_far (p := ⟨gb271, 0, none⟩) (Kd.R_types HO239.out BK271.out (by decide)) (fun _ hk => hk.2) (.slice Ao87 t253.length co87)) (fun _ hk => hk.2) (.slice Ao90 t256.length co90)) (fun _ hk => hk.2) (.slice Ao91 t259.length co91)) (fun _ hk => hk.2) (.slice Ao92 t262.length co92)) (fun _ hk => hk.2) (.slice Ao93 t265.length co93)) (fun _ hk => hk.2) (.slice Ao94 t268.length co94)) (fun _ h_ => h_.1))) hb); have n2_ := Aside0.mk (Kd.R_below (by (with_reducible repeat (first | apply Kd.R_alloc | apply Kd.R_drewN | apply Kd.R_drew)); exact (Kd.R_mono (Kd.R_far (p := ⟨gb271, 5, none⟩) (Kd.R_far (p := ⟨gb271, 4, none⟩) (Kd.R_far (p := ⟨gb271, 3, none⟩) (Kd.R_far (p := ⟨gb271, 2, none⟩) (Kd.R_far (p := ⟨gb271, 1, none⟩) (Kd.R_far (p := ⟨gb271, 0, none⟩) (Kd.R_types HO242.out BK271.out (by decide)) (fun _ hk => hk.2) (.slice Ao87 t253.length co87)) (fun _ hk => hk.2) (.slice Ao90 t256.length co90)) (fun _ hk => hk.2) (.slice Ao91 t259.length co91)) (fun _ hk => hk.2) (.slice Ao92 t262.length co92)) (fun _ hk => hk.2) (.slice Ao93 t265.length co93)) (fun _ hk => hk.2) (.slice Ao94 t268.length co94)) (fun _ h_ => h_.1))) hb); have n3_ := Aside0.mk (Kd.R_below (by (with_reducible repeat (first | apply Kd.R_alloc | apply Kd.R_drewN | apply Kd.R_drew)); exact (Kd.R_mono (Kd.R_far (p := ⟨gb271, 5, none⟩) (Kd.R_far (p := ⟨gb271, 4, none⟩) (Kd.R_far (p := ⟨gb271, 3, none⟩) (Kd.R_far (p := ⟨gb271, 2, none⟩) (Kd.R_far (p := ⟨gb271, 1, none⟩) (Kd.R_far (p := ⟨gb271, 0, none⟩) (Kd.R_types HO245.out BK271.out (by decide)) (fun _ hk => hk.2) (.slice Ao87 t253.length co87)) (fun _ hk => hk.2) (.slice Ao90 t256.length co90)) (fun _ hk => hk.2) (.slice Ao91 t259.length co91)) (fun _ hk => hk.2) (.slice Ao92 t262.length co92)) (fun _ hk => hk.2) (.slice Ao93 t265.length co93)) (fun _ hk => hk.2) (.slice Ao94 t268.length co94)) (fun _ h_ => h_.1))) hb); have n4_ := Aside0.mk (Kd.R_below (by (with_reducible repeat (first | apply Kd.R_alloc | apply Kd.R_drewN | apply Kd.R_drew)); exact (Kd.R_mono (Kd.R_far (p := ⟨gb271, 5, none⟩) (Kd.R_far (p := ⟨gb271, 4, none⟩) (Kd.R_far (p := ⟨gb271, 3, none⟩) (Kd.R_far (p := ⟨gb271, 2, none⟩) (Kd.R_far (p := ⟨gb271, 1, none⟩) (Kd.R_far (p := ⟨gb271, 0, none⟩) (Kd.R_types HO248.out BK271.out (by decide)) (fun _ hk => hk.2) (.slice Ao87 t253.length co87)) (fun _ hk => hk.2) (.slice Ao90 t256.length co90)) (fun _ hk => hk.2) (.slice Ao91 t259.length co91)) (fun _ hk => hk.2) (.slice Ao92 t262.length co92)) (fun _ hk => hk.2) (.slice Ao93 t265.length co93)) (fun _ hk => hk.2) (.slice Ao94 t268.length co94)) (fun _ h_ => h_.1))) hb); have n5_ := Aside0.mk (Kd.R_below (by (with_reducible repeat (first | apply Kd.R_alloc | apply Kd.R_drewN | apply Kd.R_drew)); exact (Kd.R_mono (Kd.R_far (p := ⟨gb271, 5, none⟩) (Kd.R_far (p := ⟨gb271, 4, none⟩) (Kd.R_far (p := ⟨gb271, 3, none⟩) (Kd.R_far (p := ⟨gb271, 2, none⟩) (Kd.R_far (p := ⟨gb271, 1, none⟩) (Kd.R_far (p := ⟨gb271, 0, none⟩) (Kd.R_types HO251.out BK271.out (by decide)) (fun _ hk => hk.2) (.slice Ao87 t253.length co87)) (fun _ hk => hk.2) (.slice Ao90 t256.length co90)) (fun _ hk => hk.2) (.slice Ao91 t259.length co91)) (fun _ hk => hk.2) (.slice Ao92 t262.length co92)) (fun _ hk => hk.2) (.slice Ao93 t265.length co93)) (fun _ hk => hk.2) (.slice Ao94 t268.length co94)) (fun _ h_ => h_.1))) hb); have n6_ := Aside0.mk (Kd.R_below (by (with_reducible repeat (first | apply Kd.R_alloc | apply Kd.R_drewN | apply Kd.R_drew)); exact (Kd.R_mono (Kd.R_far (p := ⟨gb271, 5, none⟩) (Kd.R_far (p := ⟨gb271, 4, none⟩) (Kd.R_far (p := ⟨gb271, 3, none⟩) (Kd.R_far (p := ⟨gb271, 2, none⟩) (Kd.R_far (p := ⟨gb271, 1, none⟩) (Kd.R_far (p := ⟨gb271, 0, none⟩) (Kd.R_types HO255.out BK271.out (by decide)) (fun _ hk => hk.2) (.slice Ao87 t253.length co87)) (fun _ hk => hk.2) (.slice Ao90 t256.length co90)) (fun _ hk => hk.2) (.slice Ao91 t259.length co91)) (fun _ hk => hk.2) (.slice Ao92 t262.length co92)) (fun _ hk => hk.2) (.slice Ao93 t265.length co93)) (fun _ hk => hk.2) (.slice Ao94 t268.length co94)) (fun _ h_ => h_.1))) hb); have n7_ := Aside0.mk (Kd.R_below (by (with_reducible repeat (first | apply Kd.R_alloc | apply Kd.R_drewN | apply Kd.R_drew)); exact (Kd.R_mono (Kd.R_far (p := ⟨gb271, 5, none⟩) (Kd.R_far (p := ⟨gb271, 4, none⟩) (Kd.R_far (p := ⟨gb271, 3, none⟩) (Kd.R_far (p := ⟨gb271, 2, none⟩) (Kd.R_far (p := ⟨gb271, 1, none⟩) (Kd.R_far (p := ⟨gb271, 0, none⟩) (Kd.R_types HO258.out BK271.out (by decide)) (fun _ hk => hk.2) (.slice Ao87 t253.length co87)) (fun _ hk => hk.2) (.slice Ao90 t256.length co90)) (fun _ hk => hk.2) (.slice Ao91 t259.length co91)) (fun _ hk => hk.2) (.slice Ao92 t262.length co92)) (fun _ hk => hk.2) (.slice Ao93 t265.length co93)) (fun _ hk => hk.2) (.slice Ao94 t268.length co94)) (fun _ h_ => h_.1))) hb); have n8_ := Aside0.mk (Kd.R_below (by (with_reducible repeat (first | apply Kd.R_alloc | apply Kd.R_drewN | apply Kd.R_drew)); exact (Kd.R_mono (Kd.R_far (p := ⟨gb271, 5, none⟩) (Kd.R_far (p := ⟨gb271, 4, none⟩) (Kd.R_far (p := ⟨gb271, 3, none⟩) (Kd.R_far (p := ⟨gb271, 2, none⟩) (Kd.R_far (p := ⟨gb271, 1, none⟩) (Kd.R_far (p := ⟨gb271, 0, none⟩) (Kd.R_types HO261.out BK271.out (by decide)) (fun _ hk => hk.2) (.slice Ao87 t253.length co87)) (fun _ hk => hk.2) (.slice Ao90 t256.length co90)) (fun _ hk => hk.2) (.slice Ao91 t259.length co91)) (fun _ hk => hk.2) (.slice Ao92 t262.length co92)) (fun _ hk => hk.2) (.slice Ao93 t265.length co93)) (fun _ hk => hk.2) (.slice Ao94 t268.length co94)) (fun _ h_ => h_.1))) hb); have n9_ := Aside0.mk (Kd.R_below (by (with_reducible repeat (first | apply Kd.R_alloc | apply Kd.R_drewN | apply Kd.R_drew)); exact (Kd.R_mono (Kd.R_far (p := ⟨gb271, 5, none⟩) (Kd.R_far (p := ⟨gb271, 4, none⟩) (Kd.R_far (p := ⟨gb271, 3, none⟩) (Kd.R_far (p := ⟨gb271, 2, none⟩) (Kd.R_far (p := ⟨gb271, 1, none⟩) (Kd.R_far (p := ⟨gb271, 0, none⟩) (Kd.R_types HO264.out BK271.out (by decide)) (fun _ hk => hk.2) (.slice Ao87 t253.length co87)) (fun _ hk => hk.2) (.slice Ao90 t256.length co90)) (fun _ hk => hk.2) (.slice Ao91 t259.length co91)) (fun _ hk => hk.2) (.slice Ao92 t262.length co92)) (fun _ hk => hk.2) (.slice Ao93 t265.length co93)) (fun _ hk => hk.2) (.slice Ao94 t268.length co94)) (fun _ h_ => h_.1))) hb); have n10_ := Aside0.mk (Kd.R_below (by (with_reducible repeat (first | apply Kd.R_alloc | apply Kd.R_drewN | apply Kd.R_drew)); exact (Kd.R_mono (Kd.R_far (p := ⟨gb271, 5, none⟩) (Kd.R_far (p := ⟨gb271, 4, none⟩) (Kd.R_far (p := ⟨gb271, 3, none⟩) (Kd.R_far (p := ⟨gb271, 2, none⟩) (Kd.R_far (p := ⟨gb271, 1, none⟩) (Kd.R_far (p := ⟨gb271, 0, none⟩) (Kd.R_types HO267.out BK271.out (by decide)) (fun _ hk => hk.2) (.slice Ao87 t253.length co87)) (fun _ hk => hk.2) (.slice Ao90 t256.length co90)) (fun _ hk => hk.2) (.slice Ao91 t259.length co91)) (fun _ hk => hk.2) (.slice Ao92 t262.length co92)) (fun _ hk => hk.2) (.slice Ao93 t265.length co93)) (fun _ hk => hk.2) (.slice Ao94 t268.length co94)) (fun _ h_ => h_.1))) hb); have n11_ := Aside0.mk (Kd.R_below (by (with_reducible repeat (first | apply Kd.R_alloc | apply Kd.R_drewN | apply Kd.R_drew)); exact (Kd.R_mono (Kd.R_far (p := ⟨gb271, 5, none⟩) (Kd.R_far (p := ⟨gb271, 4, none⟩) (Kd.R_far (p := ⟨gb271, 3, none⟩) (Kd.R_far (p := ⟨gb271, 2, none⟩) (Kd.R_far (p := ⟨gb271, 1, none⟩) (Kd.R_far (p := ⟨gb271, 0, none⟩) (Kd.R_types HO270.out BK271.out (by decide)) (fun _ hk => hk.2) (.slice Ao87 t253.length co87)) (fun _ hk => hk.2) (.slice Ao90 t256.length co90)) (fun _ hk => hk.2) (.slice Ao91 t259.length co91)) (fun _ hk => hk.2) (.slice Ao92 t262.length co92)) (fun _ hk => hk.2) (.slice Ao93 t265.length co93)) (fun _ hk => hk.2) (.slice Ao94 t268.length co94)) (fun _ h_ => h_.1))) hb); have n12_ := Aside0.mk (blk_below (g := gb232) (o := .cells #[.slice A0_0 l0_0.length c0_0, .slice A0_1 l0_1.length c0_1, .slice A0_2 l0_2.length c0_2, .slice A0_3 l0_3.length c0_3, .slice A0_4 l0_4.length c0_4, .slice A0_5 l0_5.length c0_5] 28 (0, 0)) (by (with_reducible repeat (first | refine blk_drewN ?_ _ | refine blk_drew ?_ | refine blk_alloc ?_ _)); refine blk_far ?_ NB232_271.out _; (with_reducible repeat (first | refine blk_drewN ?_ _ | refine blk_drew ?_ | refine blk_alloc ?_ _)); refine blk_far ?_ NB232_271.out _; (with_reducible repeat (first | refine blk_drewN ?_ _ | refine blk_drew ?_ | refine blk_alloc ?_ _)); refine blk_far ?_ NB232_271.out _; (with_reducible repeat (first | refine blk_drewN ?_ _ | refine blk_drew ?_ | refine blk_alloc ?_ _)); refine blk_far ?_ NB232_271.out _; (with_reducible repeat (first | refine blk_drewN ?_ _ | refine blk_drew ?_ | refine blk_alloc ?_ _)); refine blk_far ?_ NB232_271.out _; (with_reducible repeat (first | refine blk_drewN ?_ _ | refine blk_drew ?_ | refine blk_alloc ?_ _)); refine blk_far ?_ NB232_271.out _; (with_reducible repeat (first | refine blk_drewN ?_ _ | refine blk_drew ?_ | refine blk_alloc ?_ _)); exact BK232.out) hb); have n13_ := Aside0.mk (blk_below (g := gb271) (o := .cells #[.slice Ao87 t253.length co87, .slice Ao90 t256.length co90, .slice Ao91 t259.length co91, .slice Ao92 t262.length co92, .slice Ao93 t265.length co93, .slice Ao94 t268.length co94] 38 (0, 0)) (by (with_reducible repeat (first | refine blk_drewN ?_ _ | refine blk_drew ?_ | refine blk_alloc ?_ _)); refine blk_put (cs := #[.slice Ao87 t253.length co87, .slice Ao90 t256.length co90, .slice Ao91 t259.length co91, .slice Ao92 t262.length co92, .slice Ao93 t265.length co93, .slice none 0 0]) ?_ 5 _ rfl; (with_reducible repeat (first | refine blk_drewN ?_ _ | refine blk_drew ?_ | refine blk_alloc ?_ _)); refine blk_put (cs := #[.slice Ao87 t253.length co87, .slice Ao90 t256.length co90, .slice Ao91 t259.length co91, .slice Ao92 t262.length co92, .slice none 0 0, .slice none 0 0]) ?_ 4 _ rfl; (with_reducible repeat (first | refine blk_drewN ?_ _ | refine blk_drew ?_ | refine blk_alloc ?_ _)); refine blk_put (cs := #[.slice Ao87 t253.length co87, .slice Ao90 t256.length co90, .slice Ao91 t259.length co91, .slice none 0 0, .slice none 0 0, .slice none 0 0]) ?_ 3 _ rfl; (with_reducible repeat (first | refine blk_drewN ?_ _ | refine blk_drew ?_ | refine blk_alloc ?_ _)); refine blk_put (cs := #[.slice Ao87 t253.length co87, .slice Ao90 t256.length co90, .slice none 0 0, .slice none 0 0, .slice none 0 0, .slice none 0 0]) ?_ 2 _ rfl; (with_reducible repeat (first | refine blk_drewN ?_ _ | refine blk_drew ?_ | refine blk_alloc ?_ _)); refine blk_put (cs := #[.slice Ao87 t253.length co87, .slice none 0 0, .slice none 0 0, .slice none 0 0, .slice none 0 0, .slice none 0 0]) ?_ 1 _ rfl; (with_reducible repeat (first | refine blk_drewN ?_ _ | refine blk_drew ?_ | refine blk_alloc ?_ _)); refine blk_put (cs := #[.slice none 0 0, .slice none 0 0, .slice none 0 0, .slice none 0 0, .slice none 0 0, .slice none 0 0]) ?_ 0 _ rfl; (with_reducible repeat (first | refine blk_drewN ?_ _ | refine blk_drew ?_ | refine blk_alloc ?_ _)); exact BK271.out) hb); have n14_ := Aside0.mk (below_step (by repeat (first | (with_reducible first | exact HB.out | apply below_alloc | apply pw_below_drewN | apply below_drew1 | refine below_set ?_ GE232.out | refine below_set ?_ GE271.out) | exact HB.out)) hb); clear HO236; clear HO239; clear HO242; clear HO245; clear HO248; clear HO251; clear HO255; clear HO258; clear HO261; clear HO264; clear HO267; clear HO270; clear BK232; clear BK271; clear HB; have HO236 := n0_; have HO239 := n1_; have HO242 := n2_; have HO245 := n3_; have HO248 := n4_; have HO251 := n5_; have HO255 := n6_; have HO258 := n7_; have HO261 := n8_; have HO264 := n9_; have HO267 := n10_; have HO270 := n11_; have BK232 := n12_; have BK271 := n13_; have HB := n14_; clear n0_ n1_ n2_ n3_ n4_ n5_ n6_ n7_ n8_ n9_ n10_ n11_ n12_ n13_ n14_; (try clear hb); (try clear hb2); (try clear hk); (try clear hi)))
    have n0_ := Aside0.mk (Kd.R_drew HO236.out)
    have n1_ := Aside0.mk (Kd.R_drew HO239.out)
    have n2_ := Aside0.mk (Kd.R_drew HO242.out)
    have n3_ := Aside0.mk (Kd.R_drew HO245.out)
    have n4_ := Aside0.mk (Kd.R_drew HO248.out)
    have n5_ := Aside0.mk (Kd.R_drew HO251.out)
    have n6_ := Aside0.mk (Kd.R_drew HO255.out)
    have n7_ := Aside0.mk (Kd.R_drew HO258.out)
    have n8_ := Aside0.mk (Kd.R_drew HO261.out)
    have n9_ := Aside0.mk (Kd.R_drew HO264.out)
    have n10_ := Aside0.mk (Kd.R_drew HO267.out)
    have n11_ := Aside0.mk (Kd.R_drew HO270.out)
    have n12_ := Aside0.mk (blk_drew BK232.out)
    have n13_ := Aside0.mk (blk_drew BK271.out)
    have n14_ := Aside0.mk (below_drew1 HB.out)
    clear HO236
    clear HO239
    clear HO242
    clear HO245
    clear HO248
    clear HO251
    clear HO255
    clear HO258
    clear HO261
    clear HO264
    clear HO267
    clear HO270
    clear BK232
    clear BK271
    clear HB
    have HO236 := n0_
    have HO239 := n1_
    have HO242 := n2_
    have HO245 := n3_
    have HO248 := n4_
    have HO251 := n5_
    have HO255 := n6_
    have HO258 := n7_
    have HO261 := n8_
    have HO264 := n9_
    have HO267 := n10_
    have HO270 := n11_
    have BK232 := n12_
    have BK271 := n13_
    have HB := n14_
    clear n0_ n1_ n2_ n3_ n4_ n5_ n6_ n7_ n8_ n9_ n10_ n11_ n12_ n13_ n14_
    refine start_ (n := 5) (S := fun w' => w'.cell? ⟨gb271, 0, none⟩ = some (.slice Ao87 t253.length co87) ∧ w'.cell? ⟨gb271, 1, none⟩ = some (.slice Ao90 t256.length co90) ∧ w'.cell? ⟨gb271, 2, none⟩ = some (.slice Ao91 t259.length co91) ∧ w'.cell? ⟨gb271, 3, none⟩ = some (.slice Ao92 t262.length co92) ∧ w'.cell? ⟨gb271, 4, none⟩ = some (.slice Ao93 t265.length co93) ∧ w'.cell? ⟨gb271, 5, none⟩ = some (.slice Ao94 t268.length co94) ∧ w'.cell? ⟨gb232, 0, none⟩ = some (.slice A0_0 l0_0.length c0_0) ∧ w'.cell? ⟨gb232, 1, none⟩ = some (.slice A0_1 l0_1.length c0_1) ∧ w'.cell? ⟨gb232, 2, none⟩ = some (.slice A0_2 l0_2.length c0_2) ∧ w'.cell? ⟨gb232, 3, none⟩ = some (.slice A0_3 l0_3.length c0_3) ∧ w'.cell? ⟨gb232, 4, none⟩ = some (.slice A0_4 l0_4.length c0_4) ∧ w'.cell? ⟨gb232, 5, none⟩ = some (.slice A0_5 l0_5.length c0_5)) (ds := []) #[false, false, false, false, false] (by kernel_rfl) rfl rfl ⟨(blk_cell BK271.out 0).trans rfl, (blk_cell BK271.out 1).trans rfl, (blk_cell BK271.out 2).trans rfl, (blk_cell BK271.out 3).trans rfl, (blk_cell BK271.out 4).trans rfl, (blk_cell BK271.out 5).trans rfl, (blk_cell BK232.out 0).trans rfl, (blk_cell BK232.out 1).trans rfl, (blk_cell BK232.out 2).trans rfl, (blk_cell BK232.out 3).trans rfl, (blk_cell BK232.out 4).trans rfl, (blk_cell BK232.out 5).trans rfl⟩ (fun hHeld => ?_)
    generalize w95.drew = w96 at HO236 HO239 HO242 HO245 HO248 HO251 HO255 HO258 HO261 HO264 HO267 HO270 BK232 BK271 HB hHeld ⊢
    refine take_ (i := 0) (N := some 22) (v := ?_) (a' := ?_) #[true, false, false, false, false] rfl rfl (by kernel_rfl) (fun _ _ _ h => h) (Or.inl ⟨by rfl, ?_⟩) hHeld ?_ ?_
    rotate_left
    ·rintro w' ⟨s0, s1, s2, s3, s4, s5, s6, s7, s8, s9, s10, s11⟩
     go_simp
     with_reducible rfl
    rotate_left
    ·simp only [Act.put, List.setIfInBounds_toArray, List.set_cons_zero, List.set_cons_succ, i64_w, i32_w]
     rfl
    refine take_ (i := 1) (N := some 23) (v := ?_) (a' := ?_) #[true, true, false, false, false] rfl rfl (by kernel_rfl) (fun _ _ _ h => h) (Or.inl ⟨by rfl, ?_⟩) hHeld ?_ ?_
    rotate_left
    ·rintro w' ⟨s0, s1, s2, s3, s4, s5, s6, s7, s8, s9, s10, s11⟩
     go_simp
     with_reducible rfl
    rotate_left
    ·simp only [Act.put, List.setIfInBounds_toArray, List.set_cons_zero, List.set_cons_succ, i64_w, i32_w]
     rfl
    refine one_ (i := 2) (N := some 24) #[true, true, true, false, false] rfl rfl (by kernel_rfl) (by decide) (fun K hK => ?_)
    refine goes_ Try.func10 (by kernel_rfl) rfl #[.agg #[.slice A0_0 l0_0.length c0_0, .slice A0_1 l0_1.length c0_1, .slice A0_2 l0_2.length c0_2, .slice A0_3 l0_3.length c0_3, .slice A0_4 l0_4.length c0_4, .slice A0_5 l0_5.length c0_5]] (by rfl) rfl rfl (by (try simp only [List.map_toArray, List.map_cons, List.map_nil]); first | done | rfl | (simp only [List.length_drop, List.length_take]; rfl)) ?_
    with_reducible refine (laws_toNet.calls k _ _ l0_0 _ _ l0_1 _ _ l0_2 _ _ l0_3 _ _ l0_4 _ _ l0_5 t273 t276 t279 t282 t285 t288 _ ?side1 ?side2 ?side3 ?side4 ?side5 ?side6 ?side7 ?side8 ?side9 ?side10 ?side11 ?side12 A36.out).mono ?_
    (case side1 => repeat (first | exact (Kd.C_below HR0_0.out HB.out) | (with_reducible refine Kd.C_alloc ?_ _) | (with_reducible refine Kd.C_drewN ?_ _) | (with_reducible refine Kd.C_drew ?_)))
    (case side2 => exact HC0_0.out)
    (case side3 => repeat (first | exact (Kd.C_below HR0_1.out HB.out) | (with_reducible refine Kd.C_alloc ?_ _) | (with_reducible refine Kd.C_drewN ?_ _) | (with_reducible refine Kd.C_drew ?_)))
    (case side4 => exact HC0_1.out)
    (case side5 => repeat (first | exact (Kd.C_below HR0_2.out HB.out) | (with_reducible refine Kd.C_alloc ?_ _) | (with_reducible refine Kd.C_drewN ?_ _) | (with_reducible refine Kd.C_drew ?_)))
    (case side6 => exact HC0_2.out)
    (case side7 => repeat (first | exact (Kd.C_below HR0_3.out HB.out) | (with_reducible refine Kd.C_alloc ?_ _) | (with_reducible refine Kd.C_drewN ?_ _) | (with_reducible refine Kd.C_drew ?_)))
    (case side8 => exact HC0_3.out)
    (case side9 => repeat (first | exact (Kd.C_below HR0_4.out HB.out) | (with_reducible refine Kd.C_alloc ?_ _) | (with_reducible refine Kd.C_drewN ?_ _) | (with_reducible refine Kd.C_drew ?_)))
    (case side10 => exact HC0_4.out)
    (case side11 => repeat (first | exact (Kd.C_below HR0_5.out HB.out) | (with_reducible refine Kd.C_alloc ?_ _) | (with_reducible refine Kd.C_drewN ?_ _) | (with_reducible refine Kd.C_drew ?_)))
    (case side12 => exact HC0_5.out)
    rintro e w97 ⟨v274, v277, v280, v283, v286, v289, rfl, ho0, ho1, ho2, ho3, ho4, ho5, hb⟩
    refine ⟨_, rfl, ?_⟩
    have n0_ := Aside0.mk (Kd.R_elder' (by (with_reducible repeat (first | apply Kd.R_alloc | apply Kd.R_drewN | apply Kd.R_drew)); exact HO236.out) (Kd.R_base ho0) hb)
    have n1_ := Aside0.mk (Kd.R_elder' (by (with_reducible repeat (first | apply Kd.R_alloc | apply Kd.R_drewN | apply Kd.R_drew)); exact HO239.out) (Kd.R_base ho1) hb)
    have n2_ := Aside0.mk (Kd.R_mono (Kd.R_told (Kd.R_told (Kd.R_old (by (with_reducible repeat (first | apply Kd.R_alloc | apply Kd.R_drewN | apply Kd.R_drew)); exact HO242.out) hb) (Kd.R_base ho2)) (Kd.R_base ho3)) (fun _ h_ => h_.1))
    have n3_ := Aside0.mk (Kd.R_mono (Kd.R_told (Kd.R_told (Kd.R_old (by (with_reducible repeat (first | apply Kd.R_alloc | apply Kd.R_drewN | apply Kd.R_drew)); exact HO245.out) hb) (Kd.R_base ho2)) (Kd.R_base ho3)) (fun _ h_ => h_.1))
    have n4_ := Aside0.mk (Kd.R_elder' (by (with_reducible repeat (first | apply Kd.R_alloc | apply Kd.R_drewN | apply Kd.R_drew)); exact HO248.out) (Kd.R_base ho4) hb)
    have n5_ := Aside0.mk (Kd.R_elder' (by (with_reducible repeat (first | apply Kd.R_alloc | apply Kd.R_drewN | apply Kd.R_drew)); exact HO251.out) (Kd.R_base ho5) hb)
    have n6_ := Aside0.mk (Kd.R_elder' (by (with_reducible repeat (first | apply Kd.R_alloc | apply Kd.R_drewN | apply Kd.R_drew)); exact HO255.out) (Kd.R_base ho0) hb)
    have n7_ := Aside0.mk (Kd.R_elder' (by (with_reducible repeat (first | apply Kd.R_alloc | apply Kd.R_drewN | apply Kd.R_drew)); exact HO258.out) (Kd.R_base ho1) hb)
    have n8_ := Aside0.mk (Kd.R_mono (Kd.R_told (Kd.R_told (Kd.R_old (by (with_reducible repeat (first | apply Kd.R_alloc | apply Kd.R_drewN | apply Kd.R_drew)); exact HO261.out) hb) (Kd.R_base ho2)) (Kd.R_base ho3)) (fun _ h_ => h_.1))
    have n9_ := Aside0.mk (Kd.R_mono (Kd.R_told (Kd.R_told (Kd.R_old (by (with_reducible repeat (first | apply Kd.R_alloc | apply Kd.R_drewN | apply Kd.R_drew)); exact HO264.out) hb) (Kd.R_base ho2)) (Kd.R_base ho3)) (fun _ h_ => h_.1))
    have n10_ := Aside0.mk (Kd.R_elder' (by (with_reducible repeat (first | apply Kd.R_alloc | apply Kd.R_drewN | apply Kd.R_drew)); exact HO267.out) (Kd.R_base ho4) hb)
    have n11_ := Aside0.mk (Kd.R_elder' (by (with_reducible repeat (first | apply Kd.R_alloc | apply Kd.R_drewN | apply Kd.R_drew)); exact HO270.out) (Kd.R_base ho5) hb)
    have n12_ := Aside0.mk (Kd.R_lower (Kd.R_new' (Kd.R_new' ho0 (Kd.R_lt (by (with_reducible repeat (first | apply Kd.R_alloc | apply Kd.R_drewN | apply Kd.R_drew)); exact HO236.out))) (Kd.R_lt (by (with_reducible repeat (first | apply Kd.R_alloc | apply Kd.R_drewN | apply Kd.R_drew)); exact HO255.out))) (below_size (by repeat (first | (with_reducible first | exact HB.out | apply below_alloc | apply pw_below_drewN | apply below_drew1 | refine below_set ?_ GE232.out | refine below_set ?_ GE271.out) | exact HB.out))))
    have n13_ := Aside0.mk (Kd.R_lower (Kd.R_new' (Kd.R_new' ho1 (Kd.R_lt (by (with_reducible repeat (first | apply Kd.R_alloc | apply Kd.R_drewN | apply Kd.R_drew)); exact HO239.out))) (Kd.R_lt (by (with_reducible repeat (first | apply Kd.R_alloc | apply Kd.R_drewN | apply Kd.R_drew)); exact HO258.out))) (below_size (by repeat (first | (with_reducible first | exact HB.out | apply below_alloc | apply pw_below_drewN | apply below_drew1 | refine below_set ?_ GE232.out | refine below_set ?_ GE271.out) | exact HB.out))))
    have n14_ := Aside0.mk (Kd.R_lower (Kd.R_new' (Kd.R_new' (Kd.R_new' (Kd.R_new' ho2 (Kd.R_lt (by (with_reducible repeat (first | apply Kd.R_alloc | apply Kd.R_drewN | apply Kd.R_drew)); exact HO242.out))) (Kd.R_lt (by (with_reducible repeat (first | apply Kd.R_alloc | apply Kd.R_drewN | apply Kd.R_drew)); exact HO245.out))) (Kd.R_lt (by (with_reducible repeat (first | apply Kd.R_alloc | apply Kd.R_drewN | apply Kd.R_drew)); exact HO261.out))) (Kd.R_lt (by (with_reducible repeat (first | apply Kd.R_alloc | apply Kd.R_drewN | apply Kd.R_drew)); exact HO264.out))) (below_size (by repeat (first | (with_reducible first | exact HB.out | apply below_alloc | apply pw_below_drewN | apply below_drew1 | refine below_set ?_ GE232.out | refine below_set ?_ GE271.out) | exact HB.out))))
    have n15_ := Aside0.mk (Kd.R_lower (Kd.R_new' (Kd.R_new' (Kd.R_new' (Kd.R_new' ho3 (Kd.R_lt (by (with_reducible repeat (first | apply Kd.R_alloc | apply Kd.R_drewN | apply Kd.R_drew)); exact HO242.out))) (Kd.R_lt (by (with_reducible repeat (first | apply Kd.R_alloc | apply Kd.R_drewN | apply Kd.R_drew)); exact HO245.out))) (Kd.R_lt (by (with_reducible repeat (first | apply Kd.R_alloc | apply Kd.R_drewN | apply Kd.R_drew)); exact HO261.out))) (Kd.R_lt (by (with_reducible repeat (first | apply Kd.R_alloc | apply Kd.R_drewN | apply Kd.R_drew)); exact HO264.out))) (below_size (by repeat (first | (with_reducible first | exact HB.out | apply below_alloc | apply pw_below_drewN | apply below_drew1 | refine below_set ?_ GE232.out | refine below_set ?_ GE271.out) | exact HB.out))))
    have n16_ := Aside0.mk (Kd.R_lower (Kd.R_new' (Kd.R_new' ho4 (Kd.R_lt (by (with_reducible repeat (first | apply Kd.R_alloc | apply Kd.R_drewN | apply Kd.R_drew)); exact HO248.out))) (Kd.R_lt (by (with_reducible repeat (first | apply Kd.R_alloc | apply Kd.R_drewN | apply Kd.R_drew)); exact HO267.out))) (below_size (by repeat (first | (with_reducible first | exact HB.out | apply below_alloc | apply pw_below_drewN | apply below_drew1 | refine below_set ?_ GE232.out | refine below_set ?_ GE271.out) | exact HB.out))))
    have n17_ := Aside0.mk (Kd.R_lower (Kd.R_new' (Kd.R_new' ho5 (Kd.R_lt (by (with_reducible repeat (first | apply Kd.R_alloc | apply Kd.R_drewN | apply Kd.R_drew)); exact HO251.out))) (Kd.R_lt (by (with_reducible repeat (first | apply Kd.R_alloc | apply Kd.R_drewN | apply Kd.R_drew)); exact HO270.out))) (below_size (by repeat (first | (with_reducible first | exact HB.out | apply below_alloc | apply pw_below_drewN | apply below_drew1 | refine below_set ?_ GE232.out | refine below_set ?_ GE271.out) | exact HB.out))))
    have n18_ := Aside0.mk (blk_below (g := gb232) (o := .cells #[.slice A0_0 l0_0.length c0_0, .slice A0_1 l0_1.length c0_1, .slice A0_2 l0_2.length c0_2, .slice A0_3 l0_3.length c0_3, .slice A0_4 l0_4.length c0_4, .slice A0_5 l0_5.length c0_5] 28 (0, 0)) (by (with_reducible repeat (first | refine blk_drewN ?_ _ | refine blk_drew ?_ | refine blk_alloc ?_ _)); exact BK232.out) hb)
    have n19_ := Aside0.mk (blk_below (g := gb271) (o := .cells #[.slice Ao87 t253.length co87, .slice Ao90 t256.length co90, .slice Ao91 t259.length co91, .slice Ao92 t262.length co92, .slice Ao93 t265.length co93, .slice Ao94 t268.length co94] 38 (0, 0)) (by (with_reducible repeat (first | refine blk_drewN ?_ _ | refine blk_drew ?_ | refine blk_alloc ?_ _)); exact BK271.out) hb)
    have n20_ := Aside0.mk (below_step (by repeat (first | (with_reducible first | exact HB.out | apply below_alloc | apply pw_below_drewN | apply below_drew1 | refine below_set ?_ GE232.out | refine below_set ?_ GE271.out) | exact HB.out)) hb)
    clear HO236
    clear HO239
    clear HO242
    clear HO245
    clear HO248
    clear HO251
    clear HO255
    clear HO258
    clear HO261
    clear HO264
    clear HO267
    clear HO270
    clear BK232
    clear BK271
    clear HB
    have HO236 := n0_
    have HO239 := n1_
    have HO242 := n2_
    have HO245 := n3_
    have HO248 := n4_
    have HO251 := n5_
    have HO255 := n6_
    have HO258 := n7_
    have HO261 := n8_
    have HO264 := n9_
    have HO267 := n10_
    have HO270 := n11_
    have HO275 := n12_
    have HO278 := n13_
    have HO281 := n14_
    have HO284 := n15_
    have HO287 := n16_
    have HO290 := n17_
    have BK232 := n18_
    have BK271 := n19_
    have HB := n20_
    clear n0_ n1_ n2_ n3_ n4_ n5_ n6_ n7_ n8_ n9_ n10_ n11_ n12_ n13_ n14_ n15_ n16_ n17_ n18_ n19_ n20_
    (try clear hb)
    (try clear hb2)
    (try clear hk)
    (try clear hi)
    (try clear ho0)
    (try clear ho1)
    (try clear ho2)
    (try clear ho3)
    (try clear ho4)
    (try clear ho5)
    obtain ⟨Ao98, co98, eo98⟩ := Kd.R_slice HO275.out
    (first | subst eo98 | (injection eo98 with f1_ f2_ f3_; have f4_ := f1_.symm; have f5_ := f3_.symm; clear f1_ f2_ f3_; subst f4_; subst f5_))
    obtain ⟨Ao99, co99, eo99⟩ := Kd.R_slice HO278.out
    (first | subst eo99 | (injection eo99 with f1_ f2_ f3_; have f4_ := f1_.symm; have f5_ := f3_.symm; clear f1_ f2_ f3_; subst f4_; subst f5_))
    obtain ⟨Ao100, co100, eo100⟩ := Kd.R_slice HO281.out
    (first | subst eo100 | (injection eo100 with f1_ f2_ f3_; have f4_ := f1_.symm; have f5_ := f3_.symm; clear f1_ f2_ f3_; subst f4_; subst f5_))
    obtain ⟨Ao101, co101, eo101⟩ := Kd.R_slice HO284.out
    (first | subst eo101 | (injection eo101 with f1_ f2_ f3_; have f4_ := f1_.symm; have f5_ := f3_.symm; clear f1_ f2_ f3_; subst f4_; subst f5_))
    obtain ⟨Ao102, co102, eo102⟩ := Kd.R_slice HO287.out
    (first | subst eo102 | (injection eo102 with f1_ f2_ f3_; have f4_ := f1_.symm; have f5_ := f3_.symm; clear f1_ f2_ f3_; subst f4_; subst f5_))
    obtain ⟨Ao103, co103, eo103⟩ := Kd.R_slice HO290.out
    (first | subst eo103 | (injection eo103 with f1_ f2_ f3_; have f4_ := f1_.symm; have f5_ := f3_.symm; clear f1_ f2_ f3_; subst f4_; subst f5_))
    refine hK.out _ _ ⟨(blk_cell BK271.out 0).trans rfl, (blk_cell BK271.out 1).trans rfl, (blk_cell BK271.out 2).trans rfl, (blk_cell BK271.out 3).trans rfl, (blk_cell BK271.out 4).trans rfl, (blk_cell BK271.out 5).trans rfl, (blk_cell BK232.out 0).trans rfl, (blk_cell BK232.out 1).trans rfl, (blk_cell BK232.out 2).trans rfl, (blk_cell BK232.out 3).trans rfl, (blk_cell BK232.out 4).trans rfl, (blk_cell BK232.out 5).trans rfl⟩ (fun hHeld => ?_)
    clear hK K
    refine norm_ (a' := ?_) ?_ ?_
    rotate_left
    ·show Act.put _ (some 24) _ = _
     simp only [Act.put, List.setIfInBounds_toArray, List.set_cons_zero, List.set_cons_succ, i64_w, i32_w]
     rfl
    refine one_ (i := 3) (N := some 25) #[true, true, true, true, false] rfl rfl (by kernel_rfl) (by decide) (fun K hK => ?_)
    refine goes_ Try.func15 (by kernel_rfl) rfl #[.agg #[.slice Ao87 t253.length co87, .slice Ao90 t256.length co90, .slice Ao91 t259.length co91, .slice Ao92 t262.length co92, .slice Ao93 t265.length co93, .slice Ao94 t268.length co94], .agg #[.slice Ao98 t273.length co98, .slice Ao99 t276.length co99, .slice Ao100 t279.length co100, .slice Ao101 t282.length co101, .slice Ao102 t285.length co102, .slice Ao103 t288.length co103]] (by rfl) rfl rfl (by (try simp only [List.map_toArray, List.map_cons, List.map_nil]); first | done | rfl | (simp only [List.length_drop, List.length_take]; rfl)) ?_
    with_reducible refine (laws_eqNet.calls k _ _ t253 _ _ t256 _ _ t259 _ _ t262 _ _ t265 _ _ t268 _ _ t273 _ _ t276 _ _ t279 _ _ t282 _ _ t285 _ _ t288 false _ ?side1 ?side2 ?side3 ?side4 ?side5 ?side6 ?side7 ?side8 ?side9 ?side10 ?side11 ?side12 ?side13 ?side14 ?side15 ?side16 ?side17 ?side18 ?side19 ?side20 ?side21 ?side22 ?side23 ?side24 A37.out).mono ?_
    (case side1 => repeat (first | exact (Kd.R_reads' HO255.out).2.2 | (with_reducible refine Kd.C_alloc ?_ _) | (with_reducible refine Kd.C_drewN ?_ _) | (with_reducible refine Kd.C_drew ?_)))
    (case side2 => exact (Kd.R_reads' HO255.out).2.1)
    (case side3 => repeat (first | exact (Kd.R_reads' HO258.out).2.2 | (with_reducible refine Kd.C_alloc ?_ _) | (with_reducible refine Kd.C_drewN ?_ _) | (with_reducible refine Kd.C_drew ?_)))
    (case side4 => exact (Kd.R_reads' HO258.out).2.1)
    (case side5 => repeat (first | exact (Kd.R_reads' HO261.out).2.2 | (with_reducible refine Kd.C_alloc ?_ _) | (with_reducible refine Kd.C_drewN ?_ _) | (with_reducible refine Kd.C_drew ?_)))
    (case side6 => exact (Kd.R_reads' HO261.out).2.1)
    (case side7 => repeat (first | exact (Kd.R_reads' HO264.out).2.2 | (with_reducible refine Kd.C_alloc ?_ _) | (with_reducible refine Kd.C_drewN ?_ _) | (with_reducible refine Kd.C_drew ?_)))
    (case side8 => exact (Kd.R_reads' HO264.out).2.1)
    (case side9 => repeat (first | exact (Kd.R_reads' HO267.out).2.2 | (with_reducible refine Kd.C_alloc ?_ _) | (with_reducible refine Kd.C_drewN ?_ _) | (with_reducible refine Kd.C_drew ?_)))
    (case side10 => exact (Kd.R_reads' HO267.out).2.1)
    (case side11 => repeat (first | exact (Kd.R_reads' HO270.out).2.2 | (with_reducible refine Kd.C_alloc ?_ _) | (with_reducible refine Kd.C_drewN ?_ _) | (with_reducible refine Kd.C_drew ?_)))
    (case side12 => exact (Kd.R_reads' HO270.out).2.1)
    (case side13 => repeat (first | exact (Kd.R_reads' HO275.out).2.2 | (with_reducible refine Kd.C_alloc ?_ _) | (with_reducible refine Kd.C_drewN ?_ _) | (with_reducible refine Kd.C_drew ?_)))
    (case side14 => exact (Kd.R_reads' HO275.out).2.1)
    (case side15 => repeat (first | exact (Kd.R_reads' HO278.out).2.2 | (with_reducible refine Kd.C_alloc ?_ _) | (with_reducible refine Kd.C_drewN ?_ _) | (with_reducible refine Kd.C_drew ?_)))
    (case side16 => exact (Kd.R_reads' HO278.out).2.1)
    (case side17 => repeat (first | exact (Kd.R_reads' HO281.out).2.2 | (with_reducible refine Kd.C_alloc ?_ _) | (with_reducible refine Kd.C_drewN ?_ _) | (with_reducible refine Kd.C_drew ?_)))
    (case side18 => exact (Kd.R_reads' HO281.out).2.1)
    (case side19 => repeat (first | exact (Kd.R_reads' HO284.out).2.2 | (with_reducible refine Kd.C_alloc ?_ _) | (with_reducible refine Kd.C_drewN ?_ _) | (with_reducible refine Kd.C_drew ?_)))
    (case side20 => exact (Kd.R_reads' HO284.out).2.1)
    (case side21 => repeat (first | exact (Kd.R_reads' HO287.out).2.2 | (with_reducible refine Kd.C_alloc ?_ _) | (with_reducible refine Kd.C_drewN ?_ _) | (with_reducible refine Kd.C_drew ?_)))
    (case side22 => exact (Kd.R_reads' HO287.out).2.1)
    (case side23 => repeat (first | exact (Kd.R_reads' HO290.out).2.2 | (with_reducible refine Kd.C_alloc ?_ _) | (with_reducible refine Kd.C_drewN ?_ _) | (with_reducible refine Kd.C_drew ?_)))
    (case side24 => exact (Kd.R_reads' HO290.out).2.1)
    rintro e w104 ⟨rfl, hb⟩
    refine ⟨_, rfl, ?_⟩
    have n0_ := Aside0.mk (Kd.R_below (by (with_reducible repeat (first | apply Kd.R_alloc | apply Kd.R_drewN | apply Kd.R_drew)); exact HO236.out) hb)
    have n1_ := Aside0.mk (Kd.R_below (by (with_reducible repeat (first | apply Kd.R_alloc | apply Kd.R_drewN | apply Kd.R_drew)); exact HO239.out) hb)
    have n2_ := Aside0.mk (Kd.R_below (by (with_reducible repeat (first | apply Kd.R_alloc | apply Kd.R_drewN | apply Kd.R_drew)); exact HO242.out) hb)
    have n3_ := Aside0.mk (Kd.R_below (by (with_reducible repeat (first | apply Kd.R_alloc | apply Kd.R_drewN | apply Kd.R_drew)); exact HO245.out) hb)
    have n4_ := Aside0.mk (Kd.R_below (by (with_reducible repeat (first | apply Kd.R_alloc | apply Kd.R_drewN | apply Kd.R_drew)); exact HO248.out) hb)
    have n5_ := Aside0.mk (Kd.R_below (by (with_reducible repeat (first | apply Kd.R_alloc | apply Kd.R_drewN | apply Kd.R_drew)); exact HO251.out) hb)
    have n6_ := Aside0.mk (Kd.R_below (by (with_reducible repeat (first | apply Kd.R_alloc | apply Kd.R_drewN | apply Kd.R_drew)); exact HO255.out) hb)
    have n7_ := Aside0.mk (Kd.R_below (by (with_reducible repeat (first | apply Kd.R_alloc | apply Kd.R_drewN | apply Kd.R_drew)); exact HO258.out) hb)
    have n8_ := Aside0.mk (Kd.R_below (by (with_reducible repeat (first | apply Kd.R_alloc | apply Kd.R_drewN | apply Kd.R_drew)); exact HO261.out) hb)
    have n9_ := Aside0.mk (Kd.R_below (by (with_reducible repeat (first | apply Kd.R_alloc | apply Kd.R_drewN | apply Kd.R_drew)); exact HO264.out) hb)
    have n10_ := Aside0.mk (Kd.R_below (by (with_reducible repeat (first | apply Kd.R_alloc | apply Kd.R_drewN | apply Kd.R_drew)); exact HO267.out) hb)
    have n11_ := Aside0.mk (Kd.R_below (by (with_reducible repeat (first | apply Kd.R_alloc | apply Kd.R_drewN | apply Kd.R_drew)); exact HO270.out) hb)
    have n12_ := Aside0.mk (Kd.R_below (by (with_reducible repeat (first | apply Kd.R_alloc | apply Kd.R_drewN | apply Kd.R_drew)); exact HO275.out) hb)
    have n13_ := Aside0.mk (Kd.R_below (by (with_reducible repeat (first | apply Kd.R_alloc | apply Kd.R_drewN | apply Kd.R_drew)); exact HO278.out) hb)
    have n14_ := Aside0.mk (Kd.R_below (by (with_reducible repeat (first | apply Kd.R_alloc | apply Kd.R_drewN | apply Kd.R_drew)); exact HO281.out) hb)
    have n15_ := Aside0.mk (Kd.R_below (by (with_reducible repeat (first | apply Kd.R_alloc | apply Kd.R_drewN | apply Kd.R_drew)); exact HO284.out) hb)
    have n16_ := Aside0.mk (Kd.R_below (by (with_reducible repeat (first | apply Kd.R_alloc | apply Kd.R_drewN | apply Kd.R_drew)); exact HO287.out) hb)
    have n17_ := Aside0.mk (Kd.R_below (by (with_reducible repeat (first | apply Kd.R_alloc | apply Kd.R_drewN | apply Kd.R_drew)); exact HO290.out) hb)
    have n18_ := Aside0.mk (blk_below (g := gb232) (o := .cells #[.slice A0_0 l0_0.length c0_0, .slice A0_1 l0_1.length c0_1, .slice A0_2 l0_2.length c0_2, .slice A0_3 l0_3.length c0_3, .slice A0_4 l0_4.length c0_4, .slice A0_5 l0_5.length c0_5] 28 (0, 0)) (by (with_reducible repeat (first | refine blk_drewN ?_ _ | refine blk_drew ?_ | refine blk_alloc ?_ _)); exact BK232.out) hb)
    have n19_ := Aside0.mk (blk_below (g := gb271) (o := .cells #[.slice Ao87 t253.length co87, .slice Ao90 t256.length co90, .slice Ao91 t259.length co91, .slice Ao92 t262.length co92, .slice Ao93 t265.length co93, .slice Ao94 t268.length co94] 38 (0, 0)) (by (with_reducible repeat (first | refine blk_drewN ?_ _ | refine blk_drew ?_ | refine blk_alloc ?_ _)); exact BK271.out) hb)
    have n20_ := Aside0.mk (below_step (by repeat (first | (with_reducible first | exact HB.out | apply below_alloc | apply pw_below_drewN | apply below_drew1 | refine below_set ?_ GE232.out | refine below_set ?_ GE271.out) | exact HB.out)) hb)
    clear HO236
    clear HO239
    clear HO242
    clear HO245
    clear HO248
    clear HO251
    clear HO255
    clear HO258
    clear HO261
    clear HO264
    clear HO267
    clear HO270
    clear HO275
    clear HO278
    clear HO281
    clear HO284
    clear HO287
    clear HO290
    clear BK232
    clear BK271
    clear HB
    have HO236 := n0_
    have HO239 := n1_
    have HO242 := n2_
    have HO245 := n3_
    have HO248 := n4_
    have HO251 := n5_
    have HO255 := n6_
    have HO258 := n7_
    have HO261 := n8_
    have HO264 := n9_
    have HO267 := n10_
    have HO270 := n11_
    have HO275 := n12_
    have HO278 := n13_
    have HO281 := n14_
    have HO284 := n15_
    have HO287 := n16_
    have HO290 := n17_
    have BK232 := n18_
    have BK271 := n19_
    have HB := n20_
    clear n0_ n1_ n2_ n3_ n4_ n5_ n6_ n7_ n8_ n9_ n10_ n11_ n12_ n13_ n14_ n15_ n16_ n17_ n18_ n19_ n20_
    (try clear hb)
    (try clear hb2)
    (try clear hk)
    (try clear hi)
    refine hK.out _ _ ⟨(blk_cell BK271.out 0).trans rfl, (blk_cell BK271.out 1).trans rfl, (blk_cell BK271.out 2).trans rfl, (blk_cell BK271.out 3).trans rfl, (blk_cell BK271.out 4).trans rfl, (blk_cell BK271.out 5).trans rfl, (blk_cell BK232.out 0).trans rfl, (blk_cell BK232.out 1).trans rfl, (blk_cell BK232.out 2).trans rfl, (blk_cell BK232.out 3).trans rfl, (blk_cell BK232.out 4).trans rfl, (blk_cell BK232.out 5).trans rfl⟩ (fun hHeld => ?_)
    clear hK K
    refine norm_ (a' := ?_) ?_ ?_
    rotate_left
    ·show Act.put _ (some 25) _ = _
     simp only [Act.put, List.setIfInBounds_toArray, List.set_cons_zero, List.set_cons_succ, i64_w, i32_w]
     rfl
    refine pure_ (i := 4) (N := some 26) (v := ?_) (a' := ?_) #[true, true, true, true, true] rfl rfl (by kernel_rfl) (fun _ _ _ h => h) (Or.inl ⟨by rfl, ?_⟩) ?_ ?_
    rotate_left
    ·intro w'
     go_simp
     with_reducible rfl
    rotate_left
    ·simp only [Act.put, List.setIfInBounds_toArray, List.set_cons_zero, List.set_cons_succ, i64_w, i32_w]
     rfl
    refine done_ (by kernel_rfl) ?_
    try go_wp2
    go_ret
    exact ⟨by first | rfl | (simp [errW_none, errW_some] <;> rfl) | (simp [*, errW_none, errW_some] <;> rfl), by repeat (first | (with_reducible first | exact HB.out | apply below_alloc | apply pw_below_drewN | apply below_drew1 | refine below_set ?_ GE232.out | refine below_set ?_ GE271.out) | exact HB.out)⟩
end Go.Proofs.Ytgibacfgjmdjdaa.PFnExactNetOK
end
section
set_option linter.unusedVariables false
set_option linter.unusedSimpArgs false
namespace Go.Proofs.Ytgibacfgjmdjdaa.Reads
open Go.RowKit Go.ChangeShapes Go.WideShapes Go.Deep Go.Proofs.YtgibacfgjmdjdaaW.PrintWords
def ReadsN (P : Program) (n : Nat) (t : TypeId) {α : Type} (d : Kd α) (wf : α → Prop) : Prop :=
 ∀ (H : Type) (enc : TypeId × Value → H) (w : World) (base : Nat) (spare : Nat → Bool) (held : Bool) (cs : List Value) (x : DataW H × List MemPlace),
  DataW.trod enc P w base spare held n t cs = some x → (x.1.weights P t).all (· ≤ reachBytes) = true → ∃ a : α, d.K w a cs ∧ wf a
def Reads (P : Program) (t : TypeId) {α : Type} (d : Kd α) (wf : α → Prop) : Prop := ∀ n, ReadsN P n t d wf
theorem wf_i64 {z : Int} (h : (Lit.int .i64 z).wf = true) : -9223372036854775808 ≤ z ∧ z ≤ 9223372036854775807 := by
 simp only [Lit.wf, Bool.and_eq_true, decide_eq_true_eq] at h
 exact h
def WFI (z : Int) : Prop := -9223372036854775808 ≤ z ∧ z ≤ 9223372036854775807
def WFS (s : ByteArray) : Prop := s.size ≤ 140737488351232
def WFL {α : Type} (b : Nat) (wf : α → Prop) (l : List α) : Prop := l.length * b ≤ 140737488351232 ∧ ∀ x ∈ l, wf x
theorem int {P : Program} {n : Nat} {t : TypeId} (ht : P.underlying t = some (.int .i64)) : ReadsN P n t (Kd.int .i64) WFI := by
 intro H enc w base spare held cs x h _
 obtain ⟨z, rfl, rfl, hw⟩ := DataW.trod_int ht h
 exact ⟨z, rfl, wf_i64 hw⟩
theorem string {P : Program} {n : Nat} {t : TypeId} (ht : P.underlying t = some .string) : ReadsN P n t Kd.string WFS := by
 intro H enc w base spare held cs x h hr
 obtain ⟨z, rfl, rfl, _⟩ := DataW.trod_string ht h
 refine ⟨z, rfl, ?_⟩
 simp [DataW.weights, reachBytes] at hr
 exact (show z.size ≤ 140737488351232 from of_decide_eq_true hr)
theorem all_of {H : Type} {P : Program} {e : TypeId} : ∀ {l : List (DataW H)}, (DataW.weightsAll P e l).all (· ≤ reachBytes) = true → ∀ d ∈ l, (d.weights P e).all (· ≤ reachBytes) = true
 | [], _, d, hd => by cases hd
 | y :: r, h, d, hd => by
  simp only [DataW.weightsAll, List.all_append, Bool.and_eq_true] at h
  rcases List.mem_cons.1 hd with rfl | hd
  ·exact h.1
  ·exact all_of h.2 d hd
theorem slice {P : Program} {n : Nat} {t e : TypeId} {α : Type} {d : Kd α} {wf : α → Prop} {b : Nat} (ht : P.underlying t = some (.slice e)) (hc : P.cellsOf e = d.sz) (hb : P.bytesOf e = b) (he : ∀ m, m < n → ReadsN P m e d wf) :
  ReadsN P n t (Kd.slice e d) (WFL b wf) := by
 intro H enc w base spare held cs x h hr
 cases n with
 | zero => simp [DataW.trod] at h
 | succ n =>
  have h' := h
  simp only [DataW.trod, ht] at h'
  match cs, h' with
  | [.slice none 0 0], h' =>
   refine ⟨[], ⟨none, 0, rfl, Nat.le_refl _, rfl, by simp, fun h => absurd h (Nat.lt_irrefl 0)⟩, by simp, fun x hx => by cases hx⟩
  | [.slice (some a) len cap], h' =>
   simp only at h'
   split at h'
   ·rename_i hcond
    obtain ⟨elems, hel, h2⟩ := Option.bind_eq_some_iff.1 h'
    obtain ⟨rest, hrest, rfl⟩ := Option.map_eq_some_iff.1 h2
    simp only [DataW.weights, ht, List.all_cons, List.all_append, Bool.and_eq_true, hb, List.length_map, decide_eq_true_eq] at hr
    have hlen : elems.length = len := by simpa using mapM_some_length hel
    have hget : ∀ i, i < len → ∃ y : α, wf y ∧ ∃ c, c.length = d.sz ∧ d.K w y c ∧ ∀ j u, c[j]? = some u → w.cell? (a.add (i * d.sz + j)) = some u := by
     intro i hi
     have h3 := mapM_some_get hel i i (by simp [hi])
     rw [List.getElem?_eq_getElem (by omega)] at h3
     obtain ⟨cs', hcs, htr⟩ := Option.bind_eq_some_iff.1 h3
     obtain ⟨y, hK, hw⟩ := he n (Nat.lt_succ_self n) H enc w base spare held cs' _ htr (all_of hr.2.1 _ (List.mem_map.2 ⟨elems[i]'(by omega), List.getElem_mem _, rfl⟩))
     obtain ⟨_, hcl, hat⟩ := World.cells?_some hcs
     rw [hc] at hcl hat
     refine ⟨y, hw, cs', hcl, hK, fun j u hj => ?_⟩
     have hjl : j < d.sz := by
      rw [← hcl]
      exact (List.getElem?_eq_some_iff.1 hj).1
     rw [← Deep.add_add, hat j hjl, hj]
    rcases Nat.eq_zero_or_pos len with hz | hz
    ·subst hz
     refine ⟨[], ⟨some a, cap, rfl, Nat.zero_le _, rfl, by simp, fun h => absurd h (Nat.lt_irrefl 0)⟩, by simp, fun x hx => by cases hx⟩
    have hinh : Inhabited α := ⟨(hget 0 hz).choose⟩
    obtain ⟨f, hf⟩ := choose_lt hget
    refine ⟨(List.range len).map f, ⟨some a, cap, ?_, ?_, ?_, ?_, ?_⟩, ?_, ?_⟩
    ·simp
    ·simpa using hcond.2.1
    ·simp
    ·have := hcond.2.2
     have := hcond.2.1
     simp [maxLen] at *
     omega
    ·intro _
     refine ⟨a, rfl, fun j p hj => ?_⟩
     have hjl : j < len := by
      have := (List.getElem?_eq_some_iff.1 hj).1
      simpa using this
     simp [hjl] at hj
     subst hj
     obtain ⟨_, c, h1, h2, h3⟩ := hf j hjl
     exact ⟨c, h1, h2, h3⟩
    ·have h4 := hr.1
     simp only [reachBytes] at h4
     have : len * b ≤ (elems.length + rest.length) * b := Nat.mul_le_mul_right _ (by omega)
     simp
     omega
    ·intro y hy
     obtain ⟨i, hi, rfl⟩ := List.mem_map.1 hy
     exact (hf i (by simpa using hi)).1
   ·cases h'
theorem intR {P : Program} {t : TypeId} (ht : P.underlying t = some (.int .i64)) : Reads P t (Kd.int .i64) WFI := fun _ => int ht
theorem stringR {P : Program} {t : TypeId} (ht : P.underlying t = some .string) : Reads P t Kd.string WFS := fun _ => string ht
theorem sliceR {P : Program} {t e : TypeId} {α : Type} {d : Kd α} {wf : α → Prop} {b : Nat} (ht : P.underlying t = some (.slice e)) (hc : P.cellsOf e = d.sz) (hb : P.bytesOf e = b) (he : Reads P e d wf) : Reads P t (Kd.slice e d) (WFL b wf) :=
 fun _ => slice ht hc hb (fun m _ => he m)
def FieldsN (P : Program) (n : Nat) (fs : List Field) (off : Nat) {α : Type} (d : Kd α) (wf : α → Prop) : Prop :=
 ∀ (H : Type) (enc : TypeId × Value → H) (w : World) (base : Nat) (spare : Nat → Bool) (held : Bool) (cs : List Value) (xs : List (DataW H × List MemPlace)),
  (fs.mapM fun f => DataW.trod enc P w base spare held n f.type ((cs.drop f.offset).take (P.cellsOf f.type))) = some xs →
  (DataW.weightsEach P (fs.map (·.type)) (xs.map (·.1))).all (· ≤ reachBytes) = true → cs.length = off + d.sz → ∃ a : α, d.K w a (cs.drop off) ∧ wf a
theorem last {P : Program} {n : Nat} {f : Field} {off : Nat} {α : Type} {d : Kd α} {wf : α → Prop} (ho : f.offset = off) (hc : P.cellsOf f.type = d.sz) (h : ReadsN P n f.type d wf) : FieldsN P n [f] off d wf := by
 intro H enc w base spare held cs xs hm hr hl
 simp only [List.mapM_cons, List.mapM_nil, Option.bind_eq_bind, Option.bind_eq_some_iff, Option.pure_def, Option.some.injEq] at hm
 obtain ⟨y, hy, _, rfl, rfl⟩ := hm
 rw [ho, hc, List.take_of_length_le (by rw [List.length_drop]; omega)] at hy
 simp only [List.map_cons, List.map_nil, DataW.weightsEach, List.append_nil] at hr
 exact h H enc w base spare held _ _ hy hr
theorem more {P : Program} {n : Nat} {f : Field} {fs : List Field} {off : Nat} {α β : Type} {d : Kd α} {d' : Kd β} {wf : α → Prop} {wf' : β → Prop} (ho : f.offset = off) (hc : P.cellsOf f.type = d.sz)
  (h : ReadsN P n f.type d wf) (h' : FieldsN P n fs (off + d.sz) d' wf') : FieldsN P n (f :: fs) off (Kd.pair d d') (fun x => wf x.1 ∧ wf' x.2) := by
 intro H enc w base spare held cs xs hm hr hl
 simp only [List.mapM_cons, Option.bind_eq_bind, Option.bind_eq_some_iff, Option.pure_def, Option.some.injEq] at hm
 obtain ⟨y, hy, ys, hys, rfl⟩ := hm
 simp only [List.map_cons, DataW.weightsEach, List.all_append, Bool.and_eq_true] at hr
 have hl' : cs.length = off + (d.sz + d'.sz) := hl
 rw [ho, hc] at hy
 obtain ⟨a, hK, hw⟩ := h H enc w base spare held _ _ hy hr.1
 obtain ⟨b, hK', hw'⟩ := h' H enc w base spare held cs ys hys hr.2 (by omega)
 refine ⟨(a, b), ⟨_, _, ?_, hK, hK'⟩, hw, hw'⟩
 have := (List.take_append_drop d.sz (cs.drop off)).symm
 rwa [List.drop_drop] at this
theorem struct {P : Program} {n : Nat} {t : TypeId} {fs : Array Field} {α β : Type} {d : Kd α} {wf : α → Prop} (f : β → α) (g : α → β) (hfg : ∀ a, f (g a) = a) (ht : P.underlying t = some (.struct fs)) (hc : P.cellsOf t = d.sz)
  (h : ∀ m, m < n → FieldsN P m fs.toList 0 d wf) : ReadsN P n t (Kd.iso d f) (fun x => wf (f x)) := by
 intro H enc w base spare held cs x hx hr
 cases n with
 | zero => simp [DataW.trod] at hx
 | succ n =>
  simp only [DataW.trod, ht] at hx
  have hx' : cs.length = P.cellsOf t ∧ ∃ xs, (fs.toList.mapM fun f => DataW.trod enc P w base spare held n f.type ((cs.drop f.offset).take (P.cellsOf f.type))) = some xs ∧ (.agg (xs.map (·.1)), xs.flatMap (·.2)) = x := by
   split at hx <;> simp_all
  obtain ⟨hl, xs, hm, rfl⟩ := hx'
  simp only [DataW.weights, ht] at hr
  obtain ⟨a, hK, hw⟩ := h n (Nat.lt_succ_self n) H enc w base spare held cs xs hm hr (by rw [hl, hc]; omega)
  rw [List.drop_zero] at hK
  exact ⟨g a, by show d.K w (f (g a)) cs; rw [hfg]; exact hK, by show wf (f (g a)); rw [hfg]; exact hw⟩
theorem each_of {H : Type} {P : Program} : ∀ {ts : List TypeId} {ds : List (DataW H)} {j : Nat} {t : TypeId} {d : DataW H}, (DataW.weightsEach P ts ds).all (· ≤ reachBytes) = true → ts[j]? = some t → ds[j]? = some d → (d.weights P t).all (· ≤ reachBytes) = true
 | [], _, _, _, _, _, h, _ => by simp at h
 | _ :: _, [], _, _, _, _, _, h => by simp at h
 | t0 :: ts, d0 :: ds, 0, t, d, h, ht, hd => by
  simp only [List.getElem?_cons_zero, Option.some.injEq] at ht hd
  subst ht hd
  simp only [DataW.weightsEach, List.all_append, Bool.and_eq_true] at h
  exact h.1
 | t0 :: ts, d0 :: ds, j + 1, t, d, h, ht, hd => by
  simp only [DataW.weightsEach, List.all_append, Bool.and_eq_true] at h
  exact each_of (j := j) h.2 (by simpa using ht) (by simpa using hd)
theorem arg {H : Type} {enc : TypeId × Value → H} {P : Program} {W : World} {base : Nat} {spare : Nat → Bool} {held : Bool} {t : TypeId} {v : Value} {d : DataW H} {ps : List MemPlace} {ts : List TypeId} {ds : List (DataW H)} {j : Nat} {α : Type} {k : Kd α} {wf : α → Prop}
  (hk : Reads P t k wf) (hsz : (DataW.weightsEach P ts ds).all (· ≤ reachBytes) = true) (ht : ts[j]? = some t) (hd : ds[j]? = some d) (h : DataW.Trod enc P W base spare held t v d ps) : ∃ a : α, k.K W a v.cells.toList ∧ wf a := by
 obtain ⟨fuel, hf⟩ := h
 exact hk fuel H enc W base spare held _ _ hf (each_of hsz ht hd)
end Go.Proofs.Ytgibacfgjmdjdaa.Reads
end
section
set_option linter.unusedVariables false
namespace Go.Proofs.Ytgibacfgjmdjdaa.PFnExactNetOK
open Go.RowKit Go.Proofs.YtgibacfgjmdjdaaW.PrintWords Go.Proofs.YtgibacfgjmdjdaaW.PrintLast Go.Proofs.Ytgibacfgjmdjdaa
def wf107 (x : S107) : Prop := Reads.WFI x.f0 ∧ (Reads.WFI x.f1 ∧ (Reads.WFI x.f2))
def wf109 (x : S109) : Prop := Reads.WFI x.f0 ∧ (Reads.WFI x.f1 ∧ (Reads.WFI x.f2 ∧ (Reads.WFI x.f3 ∧ (Reads.WFI x.f4))))
def wf111 (x : S111) : Prop := Reads.WFI x.f0 ∧ (Reads.WFI x.f1 ∧ (Reads.WFI x.f2 ∧ (Reads.WFI x.f3)))
def laws_FnExactNetOK.Pure : Prop := ∀ (l0_0 : List ByteArray) (l0_1 : List (S107)) (l0_2 : List Int) (l0_3 : List Int) (l0_4 : List (S109)) (l0_5 : List (S111)), (Reads.WFL 16 Reads.WFS) l0_0 → (Reads.WFL 24 wf107) l0_1 → (Reads.WFL 8 Reads.WFI) l0_2 → (Reads.WFL 8 Reads.WFI) l0_3 → (Reads.WFL 40 wf109) l0_4 → (Reads.WFL 32 wf111) l0_5 → ∃ k, laws_FnExactNetOK.f k l0_0 l0_1 l0_2 l0_3 l0_4 l0_5 = some true
theorem rk107 : Reads.Reads Try.prog 107 k107 wf107 := fun _ => Reads.struct (fun x : S107 => (x.f0, x.f1, x.f2)) (fun p => ⟨p.1, p.2.1, p.2.2⟩) (fun _ => rfl) Try.underlying107 (by kernel_rfl) (fun m _ => (Reads.more rfl (by kernel_rfl) ((Reads.intR Try.underlying3) m) (Reads.more rfl (by kernel_rfl) ((Reads.intR Try.underlying3) m) (Reads.last rfl (by kernel_rfl) ((Reads.intR Try.underlying3) m)))))
theorem rk109 : Reads.Reads Try.prog 109 k109 wf109 := fun _ => Reads.struct (fun x : S109 => (x.f0, x.f1, x.f2, x.f3, x.f4)) (fun p => ⟨p.1, p.2.1, p.2.2.1, p.2.2.2.1, p.2.2.2.2⟩) (fun _ => rfl) Try.underlying109 (by kernel_rfl) (fun m _ => (Reads.more rfl (by kernel_rfl) ((Reads.intR Try.underlying3) m) (Reads.more rfl (by kernel_rfl) ((Reads.intR Try.underlying3) m) (Reads.more rfl (by kernel_rfl) ((Reads.intR Try.underlying3) m) (Reads.more rfl (by kernel_rfl) ((Reads.intR Try.underlying3) m) (Reads.last rfl (by kernel_rfl) ((Reads.intR Try.underlying3) m)))))))
theorem rk111 : Reads.Reads Try.prog 111 k111 wf111 := fun _ => Reads.struct (fun x : S111 => (x.f0, x.f1, x.f2, x.f3)) (fun p => ⟨p.1, p.2.1, p.2.2.1, p.2.2.2⟩) (fun _ => rfl) Try.underlying111 (by kernel_rfl) (fun m _ => (Reads.more rfl (by kernel_rfl) ((Reads.intR Try.underlying3) m) (Reads.more rfl (by kernel_rfl) ((Reads.intR Try.underlying3) m) (Reads.more rfl (by kernel_rfl) ((Reads.intR Try.underlying3) m) (Reads.last rfl (by kernel_rfl) ((Reads.intR Try.underlying3) m))))))
end Go.Proofs.Ytgibacfgjmdjdaa.PFnExactNetOK
end
section
set_option linter.unusedVariables false
set_option linter.unusedSimpArgs false
namespace Go.Proofs.Ytgibacfgjmdjdaa.Plain
open Go.RowKit Go.Proofs.YtgibacfgjmdjdaaW.PrintWords
section
variable {α β : Type}
theorem ifp {c : Prop} [Decidable c] {f g : Nat → Option α} {r : α} (h : c) (k : Ev f r) : Ev (fun n => if c then f n else g n) r := by
 obtain ⟨K, hK⟩ := k
 exact ⟨K, fun n hn => by simp only [if_pos h]; exact hK n hn⟩
theorem ifn {c : Prop} [Decidable c] {f g : Nat → Option α} {r : α} (h : ¬ c) (k : Ev g r) : Ev (fun n => if c then f n else g n) r := by
 obtain ⟨K, hK⟩ := k
 exact ⟨K, fun n hn => by simp only [if_neg h]; exact hK n hn⟩
theorem bnd {g : Nat → Option α} {f : Nat → α → Option β} {a : α} {r : β} (h : Ev g a) (k : Ev (fun n => f n a) r) : Ev (fun n => (g n).bind (f n)) r := Ev.bind h k
theorem bnd0 {g : Option α} {f : Nat → α → Option β} {a : α} {r : β} (h : g = some a) (k : Ev (fun n => f n a) r) : Ev (fun n => g.bind (f n)) r := by
 obtain ⟨K, hK⟩ := k
 exact ⟨K, fun n hn => by rw [h]; exact hK n hn⟩
theorem stp {g f : Nat → Option α} {r : α} (h : ∀ k, g (k + 1) = f k) (k : Ev f r) : Ev g r := Ev.step h k
theorem evc {g f : Nat → Option α} {r : α} (h : ∀ k, g k = f k) (k : Ev f r) : Ev g r := Ev.congr h k
theorem sm (r : α) : Ev (fun _ => some r) r := Ev.now r
end
theorem up {i n : Int} (h0 : 0 ≤ i) (h : i < n) (hn : n ≤ 9223372036854775807) : wrap64 (i + 1) = i + 1 := by
 unfold wrap64
 omega
theorem w64 {x : Int} (h0 : -9223372036854775808 ≤ x) (h : x ≤ 9223372036854775807) : wrap64 x = x := by
 unfold wrap64
 omega
theorem set_take {α β : Type} (f : α → β) (xs : List α) (out : List β) (i : Nat) (x : α) (hx : xs[i]? = some x) (hl : out.length = xs.length) (h : out.take i = (xs.take i).map f) :
  (out.set i (f x)).take (i + 1) = (xs.take (i + 1)).map f := by
 have hi : i < xs.length := (List.getElem?_eq_some_iff.1 hx).1
 rw [List.take_succ_eq_append_getElem (by simp; omega), List.take_succ_eq_append_getElem hi, List.map_append, List.map_singleton, ← h]
 congr 1
 ·rw [List.take_set]
  apply List.set_eq_of_length_le
  simp
  omega
 ·rw [List.getElem_set_self]
  rw [(List.getElem?_eq_some_iff.1 hx).2]
theorem copy {α β : Type} (f : α → β) (xs : List α) (L : Int → List β → Nat → Option (List β))
  (hend : ∀ out, Ev (L (xs.length : Int) out) out)
  (hstep : ∀ (i : Nat) (out : List β) (r : List β) (x : α), xs[i]? = some x → out.length = xs.length → Ev (L ((i : Int) + 1) (out.set i (f x))) r → Ev (L (i : Int) out) r) :
  ∀ out, out.length = xs.length → Ev (L 0 out) (xs.map f) := by
 have key : ∀ (d i : Nat) (out : List β), i + d = xs.length → out.length = xs.length → out.take i = (xs.take i).map f → Ev (L (i : Int) out) (xs.map f) := by
  intro d
  induction d with
  | zero =>
   intro i out hd hl ht
   have hi : i = xs.length := by omega
   subst hi
   rw [List.take_of_length_le (by omega), List.take_of_length_le (by omega)] at ht
   subst ht
   exact hend _
  | succ d ih =>
   intro i out hd hl ht
   have hi : i < xs.length := by omega
   have hx : xs[i]? = some xs[i] := List.getElem?_eq_getElem hi
   refine hstep i out _ _ hx hl ?_
   have := ih (i + 1) (out.set i (f xs[i])) (by omega) (by simpa using hl) (set_take f xs out i _ hx hl ht)
   rwa [show ((i + 1 : Nat) : Int) = (i : Int) + 1 by omega] at this
 intro out hl
 have := key xs.length 0 out (by omega) hl (by simp)
 simpa using this
theorem same {α : Type} (xs : List α) (L : Int → Nat → Option Bool)
  (hend : Ev (L (xs.length : Int)) true)
  (hstep : ∀ (i : Nat) (x : α), xs[i]? = some x → Ev (L ((i : Int) + 1)) true → Ev (L (i : Int)) true) : Ev (L 0) true := by
 have key : ∀ (d i : Nat), i + d = xs.length → Ev (L (i : Int)) true := by
  intro d
  induction d with
  | zero =>
   intro i hd
   have hi : i = xs.length := by omega
   subst hi
   exact hend
  | succ d ih =>
   intro i hd
   have hi : i < xs.length := by omega
   refine hstep i _ (List.getElem?_eq_getElem hi) ?_
   have := ih (i + 1) (by omega)
   rwa [show ((i + 1 : Nat) : Int) = (i : Int) + 1 by omega] at this
 simpa using key xs.length 0 (by omega)
theorem getD_some {α : Type} {xs : List α} {i : Nat} {x d : α} (h : xs[i]? = some x) : xs.getD ((i : Int).toNat) d = x := by
 simp [List.getD, h]
end Go.Proofs.Ytgibacfgjmdjdaa.Plain
end
section
set_option linter.unusedVariables false
set_option linter.unusedSimpArgs false
namespace Go.Proofs.Ytgibacfgjmdjdaa.Pure
open Go.RowKit Go.Proofs.Ytgibacfgjmdjdaa Go.Proofs.Ytgibacfgjmdjdaa.PFnExactNetOK Go.Proofs.YtgibacfgjmdjdaaW.PrintWords Go.Proofs.YtgibacfgjmdjdaaW.PrintLast Go.Proofs.Ytgibacfgjmdjdaa.Plain
theorem toI_is (l : List Int) (hl : l.length ≤ 35184372088832) : Ev (fun k => laws_toIntS.f k l) l := by
 refine evc (fun k => laws_toIntS.f.eq_1 ..) (ifp (by omega) (ifp (by omega) ?_))
 have := copy (fun x : Int => x) l (fun i out k => laws_toIntS.l0 k l out i) ?_ ?_ (List.replicate (l.length : Int).toNat 0) (by simp)
 ·simpa using this
 ·intro out
  exact stp (fun k => laws_toIntS.l0.eq_2 ..) (ifn (by omega) (sm _))
 ·intro i out r x hx hlen hk
  have hi : i < l.length := (List.getElem?_eq_some_iff.1 hx).1
  refine stp (fun k => laws_toIntS.l0.eq_2 ..) (ifp (by omega) (ifp (by omega) (ifp (by omega) ?_)))
  rw [show rd l (i : Int) = x from getD_some hx, up (by omega) (by omega : (i : Int) < (l.length : Int)) (by omega), Int.toNat_natCast]
  exact hk
theorem eqI_self (l : List Int) (hl : l.length ≤ 140737488351232) : Ev (fun k => laws_eqIntS.f k l l) true := by
 refine evc (fun k => laws_eqIntS.f.eq_1 ..) (ifp rfl ?_)
 refine same l (fun i k => laws_eqIntS.l0 k l l i) ?_ ?_
 ·exact stp (fun k => laws_eqIntS.l0.eq_2 ..) (ifn (by omega) (sm _))
 ·intro i x hx hk
  have hi : i < l.length := (List.getElem?_eq_some_iff.1 hx).1
  refine stp (fun k => laws_eqIntS.l0.eq_2 ..) (ifp (by omega) (ifp (by omega) (ifp (by omega) (ifp rfl ?_))))
  rw [up (by omega) (by omega : (i : Int) < (l.length : Int)) (by omega)]
  exact hk
theorem szStr_is (l : List ByteArray) (hs : ∀ x ∈ l, x.size ≤ 140737488351232) (hl : l.length ≤ 140737488351232) (a : Int) (h0 : 0 ≤ a) (h1 : a ≤ 1048576) : ∃ v, Ev (fun k => laws_szStringS.f k l a) v ∧ v ≤ a := by
 have key : ∀ (d i : Nat) (a : Int), i + d = l.length → 0 ≤ a → a ≤ 1048576 → ∃ v, Ev (fun k => laws_szStringS.l0 k l a (i : Int)) v ∧ v ≤ a := by
  intro d
  induction d with
  | zero =>
   intro i a hd h0 h1
   exact ⟨a, stp (fun k => laws_szStringS.l0.eq_2 ..) (ifn (by omega) (sm _)), Int.le_refl _⟩
  | succ d ih =>
   intro i a hd h0 h1
   have hi : i < l.length := by omega
   have hsz := hs l[i] (List.getElem_mem hi)
   have hr : rdOf ByteArray.empty l (i : Int) = l[i] := getD_some (List.getElem?_eq_getElem hi)
   by_cases hn : a - (l[i].size : Int) < 0
   ·refine ⟨-1, stp (fun k => laws_szStringS.l0.eq_2 ..) (ifp (by omega) (ifp (by omega) (ifp ?_ (sm _)))), by omega⟩
    rw [hr, w64 (by omega) (by omega)]; exact hn
   ·obtain ⟨v, hv, hle⟩ := ih (i + 1) (a - l[i].size) (by omega) (by omega) (by omega)
    refine ⟨v, stp (fun k => laws_szStringS.l0.eq_2 ..) (ifp (by omega) (ifp (by omega) (ifn ?_ ?_))), by omega⟩
    ·rw [hr, w64 (by omega) (by omega)]; exact hn
    ·rw [hr, w64 (by omega) (by omega), up (by omega) (by omega : (i : Int) < (l.length : Int)) (by omega)]
     exact hv
 by_cases hn : a - (l.length : Int) < 0
 ·refine ⟨-1, evc (fun k => laws_szStringS.f.eq_1 ..) (ifp ?_ (sm _)), by omega⟩
  rw [w64 (by omega) (by omega)]; exact hn
 ·obtain ⟨v, hv, hle⟩ := key l.length 0 (a - l.length) (by omega) (by omega) (by omega)
  refine ⟨v, evc (fun k => laws_szStringS.f.eq_1 ..) (ifn ?_ ?_), by omega⟩
  ·rw [w64 (by omega) (by omega)]; exact hn
  ·rw [w64 (by omega) (by omega)]; exact hv
theorem szOf {α : Type} {f : List α → Int → Option Int} (hf : ∀ l a, f l a = if (wrap64 (a - (l.length : Int))) < 0 then (some (-1)) else (some (wrap64 (a - (l.length : Int))))) (l : List α) (hl : l.length ≤ 140737488351232) (a : Int) (h0 : 0 ≤ a) (h1 : a ≤ 1048576) : ∃ v, f l a = some v ∧ v ≤ a := by
 rw [hf, w64 (by omega) (by omega)]
 by_cases hn : a - (l.length : Int) < 0
 ·exact ⟨-1, by rw [if_pos hn], by omega⟩
 ·exact ⟨_, by rw [if_neg hn], by omega⟩
theorem szNet_is (l0 : List ByteArray) (l1 : List S107) (l2 l3 : List Int) (l4 : List S109) (l5 : List S111) (hs : ∀ x ∈ l0, x.size ≤ 140737488351232) (h0 : l0.length ≤ 140737488351232) (h1 : l1.length ≤ 140737488351232) (h2 : l2.length ≤ 140737488351232) (h3 : l3.length ≤ 140737488351232) (h4 : l4.length ≤ 140737488351232) (h5 : l5.length ≤ 140737488351232) : ∃ v, Ev (fun k => laws_szNet.f k l0 l1 l2 l3 l4 l5 1048576) v ∧ v ≤ 1048576 := by
 obtain ⟨v0, e0, b0⟩ := szStr_is l0 hs h0 1048576 (by omega) (by omega)
 by_cases n0 : v0 < 0
 ·exact ⟨-1, evc (fun k => laws_szNet.f.eq_1 ..) (bnd e0 (ifp n0 (sm _))), by omega⟩
 obtain ⟨v1, e1, b1⟩ := szOf (f := laws_szLinkS.f) (fun _ _ => rfl) l1 h1 v0 (by omega) (by omega)
 by_cases n1 : v1 < 0
 ·exact ⟨-1, evc (fun k => laws_szNet.f.eq_1 ..) (bnd e0 (ifn n0 (bnd0 e1 (ifp n1 (sm _))))), by omega⟩
 obtain ⟨v2, e2, b2⟩ := szOf (f := laws_szIntS.f) (fun _ _ => rfl) l2 h2 v1 (by omega) (by omega)
 by_cases n2 : v2 < 0
 ·exact ⟨-1, evc (fun k => laws_szNet.f.eq_1 ..) (bnd e0 (ifn n0 (bnd0 e1 (ifn n1 (bnd0 e2 (ifp n2 (sm _))))))), by omega⟩
 obtain ⟨v3, e3, b3⟩ := szOf (f := laws_szIntS.f) (fun _ _ => rfl) l3 h3 v2 (by omega) (by omega)
 by_cases n3 : v3 < 0
 ·exact ⟨-1, evc (fun k => laws_szNet.f.eq_1 ..) (bnd e0 (ifn n0 (bnd0 e1 (ifn n1 (bnd0 e2 (ifn n2 (bnd0 e3 (ifp n3 (sm _))))))))), by omega⟩
 obtain ⟨v4, e4, b4⟩ := szOf (f := laws_szImportS.f) (fun _ _ => rfl) l4 h4 v3 (by omega) (by omega)
 by_cases n4 : v4 < 0
 ·exact ⟨-1, evc (fun k => laws_szNet.f.eq_1 ..) (bnd e0 (ifn n0 (bnd0 e1 (ifn n1 (bnd0 e2 (ifn n2 (bnd0 e3 (ifn n3 (bnd0 e4 (ifp n4 (sm _))))))))))), by omega⟩
 obtain ⟨v5, e5, b5⟩ := szOf (f := laws_szFilterS.f) (fun _ _ => rfl) l5 h5 v4 (by omega) (by omega)
 by_cases n5 : v5 < 0
 ·exact ⟨-1, evc (fun k => laws_szNet.f.eq_1 ..) (bnd e0 (ifn n0 (bnd0 e1 (ifn n1 (bnd0 e2 (ifn n2 (bnd0 e3 (ifn n3 (bnd0 e4 (ifn n4 (bnd0 e5 (ifp n5 (sm _))))))))))))), by omega⟩
 exact ⟨v5, evc (fun k => laws_szNet.f.eq_1 ..) (bnd e0 (ifn n0 (bnd0 e1 (ifn n1 (bnd0 e2 (ifn n2 (bnd0 e3 (ifn n3 (bnd0 e4 (ifn n4 (bnd0 e5 (ifn n5 (sm _))))))))))))), by omega⟩
theorem toStr_is (l : List ByteArray) (hl : l.length ≤ 8796093021952) : Ev (fun k => laws_toStringS.f k l) l := by
 refine evc (fun k => laws_toStringS.f.eq_1 ..) (ifp (by omega) (ifp (by omega) ?_))
 have := copy (fun x : ByteArray => x) l (fun i out k => laws_toStringS.l0 k l out i) ?_ ?_ (List.replicate (l.length : Int).toNat (⟨#[]⟩ : ByteArray)) (by simp)
 ·simpa using this
 ·intro out
  exact stp (fun k => laws_toStringS.l0.eq_2 ..) (ifn (by omega) (sm _))
 ·intro i out r x hx hlen hk
  have hi : i < l.length := (List.getElem?_eq_some_iff.1 hx).1
  refine stp (fun k => laws_toStringS.l0.eq_2 ..) (ifp (by omega) (ifp (by omega) (ifp (by omega) ?_)))
  rw [show rdOf ByteArray.empty l (i : Int) = x from getD_some hx, up (by omega) (by omega : (i : Int) < (l.length : Int)) (by omega), Int.toNat_natCast]
  exact hk
def cvL (x : S107) : S92 := ⟨x.f0, x.f1, x.f2⟩
def cvI (x : S109) : S95 := ⟨x.f0, x.f1, x.f2, x.f3, x.f4⟩
def cvF (x : S111) : S97 := ⟨x.f0, x.f1, x.f2, x.f3⟩
theorem toLink_is (l : List S107) (hl : l.length ≤ 5864062014634) : Ev (fun k => laws_toLinkS.f k l) (l.map cvL) := by
 refine evc (fun k => laws_toLinkS.f.eq_1 ..) (ifp (by omega) (ifp (by omega) ?_))
 refine copy cvL l (fun i out k => laws_toLinkS.l0 k l out i) ?_ ?_ (List.replicate (l.length : Int).toNat z92) (by simp)
 ·intro out
  exact stp (fun k => laws_toLinkS.l0.eq_2 ..) (ifn (by omega) (sm _))
 ·intro i out r x hx hlen hk
  have hi : i < l.length := (List.getElem?_eq_some_iff.1 hx).1
  refine stp (fun k => laws_toLinkS.l0.eq_2 ..) (ifp (by omega) (ifp (by omega) (bnd0 rfl (ifp (by omega) ?_))))
  rw [show rd_T107 l (i : Int) = x from getD_some hx, up (by omega) (by omega : (i : Int) < (l.length : Int)) (by omega), Int.toNat_natCast]
  exact hk
theorem toImport_is (l : List S109) (hl : l.length ≤ 3518437208780) : Ev (fun k => laws_toImportS.f k l) (l.map cvI) := by
 refine evc (fun k => laws_toImportS.f.eq_1 ..) (ifp (by omega) (ifp (by omega) ?_))
 refine copy cvI l (fun i out k => laws_toImportS.l0 k l out i) ?_ ?_ (List.replicate (l.length : Int).toNat z95) (by simp)
 ·intro out
  exact stp (fun k => laws_toImportS.l0.eq_2 ..) (ifn (by omega) (sm _))
 ·intro i out r x hx hlen hk
  have hi : i < l.length := (List.getElem?_eq_some_iff.1 hx).1
  refine stp (fun k => laws_toImportS.l0.eq_2 ..) (ifp (by omega) (ifp (by omega) (bnd0 rfl (ifp (by omega) ?_))))
  rw [show rd_T109 l (i : Int) = x from getD_some hx, up (by omega) (by omega : (i : Int) < (l.length : Int)) (by omega), Int.toNat_natCast]
  exact hk
theorem toFilter_is (l : List S111) (hl : l.length ≤ 4398046510976) : Ev (fun k => laws_toFilterS.f k l) (l.map cvF) := by
 refine evc (fun k => laws_toFilterS.f.eq_1 ..) (ifp (by omega) (ifp (by omega) ?_))
 refine copy cvF l (fun i out k => laws_toFilterS.l0 k l out i) ?_ ?_ (List.replicate (l.length : Int).toNat z97) (by simp)
 ·intro out
  exact stp (fun k => laws_toFilterS.l0.eq_2 ..) (ifn (by omega) (sm _))
 ·intro i out r x hx hlen hk
  have hi : i < l.length := (List.getElem?_eq_some_iff.1 hx).1
  refine stp (fun k => laws_toFilterS.l0.eq_2 ..) (ifp (by omega) (ifp (by omega) (bnd0 rfl (ifp (by omega) ?_))))
  rw [show rd_T111 l (i : Int) = x from getD_some hx, up (by omega) (by omega : (i : Int) < (l.length : Int)) (by omega), Int.toNat_natCast]
  exact hk
theorem toNet_is (l0 : List ByteArray) (l1 : List S107) (l2 l3 : List Int) (l4 : List S109) (l5 : List S111) (h0 : l0.length ≤ 8796093021952) (h1 : l1.length ≤ 5864062014634) (h2 : l2.length ≤ 17592186043904) (h3 : l3.length ≤ 17592186043904) (h4 : l4.length ≤ 3518437208780) (h5 : l5.length ≤ 4398046510976) : Ev (fun k => laws_toNet.f k l0 l1 l2 l3 l4 l5) (l0, l1.map cvL, l2, l3, l4.map cvI, l5.map cvF) :=
 evc (fun k => laws_toNet.f.eq_1 ..) (bnd (toStr_is l0 h0) (bnd (toLink_is l1 h1) (bnd (toI_is l2 (by omega)) (bnd (toI_is l3 (by omega)) (bnd (toImport_is l4 h4) (bnd (toFilter_is l5 h5) (sm _)))))))
theorem eqStr_self (l : List ByteArray) (hl : l.length ≤ 140737488351232) : Ev (fun k => laws_eqStringS.f k l l) true := by
 refine evc (fun k => laws_eqStringS.f.eq_1 ..) (ifp rfl ?_)
 refine same l (fun i k => laws_eqStringS.l0 k l l i) ?_ ?_
 ·exact stp (fun k => laws_eqStringS.l0.eq_2 ..) (ifn (by omega) (sm _))
 ·intro i x hx hk
  have hi : i < l.length := (List.getElem?_eq_some_iff.1 hx).1
  refine stp (fun k => laws_eqStringS.l0.eq_2 ..) (ifp (by omega) (ifp (by omega) (ifp (by omega) (ifp rfl ?_))))
  rw [up (by omega) (by omega : (i : Int) < (l.length : Int)) (by omega)]
  exact hk
theorem eqLink_self (l : List S92) (hl : l.length ≤ 140737488351232) : Ev (fun k => laws_eqLinkS.f k l l) true := by
 refine evc (fun k => laws_eqLinkS.f.eq_1 ..) (ifp rfl ?_)
 refine same l (fun i k => laws_eqLinkS.l0 k l l i) ?_ ?_
 ·exact stp (fun k => laws_eqLinkS.l0.eq_2 ..) (ifn (by omega) (sm _))
 ·intro i x hx hk
  have hi : i < l.length := (List.getElem?_eq_some_iff.1 hx).1
  refine stp (fun k => laws_eqLinkS.l0.eq_2 ..) (ifp (by omega) (ifp (by omega) (ifp (by omega) (bnd0 (a := true) (by unfold laws_eqLink.f; simp) (ifp rfl ?_)))))
  rw [up (by omega) (by omega : (i : Int) < (l.length : Int)) (by omega)]
  exact hk
theorem eqImport_self (l : List S95) (hl : l.length ≤ 140737488351232) : Ev (fun k => laws_eqImportS.f k l l) true := by
 refine evc (fun k => laws_eqImportS.f.eq_1 ..) (ifp rfl ?_)
 refine same l (fun i k => laws_eqImportS.l0 k l l i) ?_ ?_
 ·exact stp (fun k => laws_eqImportS.l0.eq_2 ..) (ifn (by omega) (sm _))
 ·intro i x hx hk
  have hi : i < l.length := (List.getElem?_eq_some_iff.1 hx).1
  refine stp (fun k => laws_eqImportS.l0.eq_2 ..) (ifp (by omega) (ifp (by omega) (ifp (by omega) (bnd0 (a := true) (by unfold laws_eqImport.f; simp) (ifp rfl ?_)))))
  rw [up (by omega) (by omega : (i : Int) < (l.length : Int)) (by omega)]
  exact hk
theorem eqFilter_self (l : List S97) (hl : l.length ≤ 140737488351232) : Ev (fun k => laws_eqFilterS.f k l l) true := by
 refine evc (fun k => laws_eqFilterS.f.eq_1 ..) (ifp rfl ?_)
 refine same l (fun i k => laws_eqFilterS.l0 k l l i) ?_ ?_
 ·exact stp (fun k => laws_eqFilterS.l0.eq_2 ..) (ifn (by omega) (sm _))
 ·intro i x hx hk
  have hi : i < l.length := (List.getElem?_eq_some_iff.1 hx).1
  refine stp (fun k => laws_eqFilterS.l0.eq_2 ..) (ifp (by omega) (ifp (by omega) (ifp (by omega) (bnd0 (a := true) (by unfold laws_eqFilter.f; simp) (ifp rfl ?_)))))
  rw [up (by omega) (by omega : (i : Int) < (l.length : Int)) (by omega)]
  exact hk
theorem eqNet_self (l0 : List ByteArray) (l1 : List S92) (l2 l3 : List Int) (l4 : List S95) (l5 : List S97) (h0 : l0.length ≤ 140737488351232) (h1 : l1.length ≤ 140737488351232) (h2 : l2.length ≤ 140737488351232) (h3 : l3.length ≤ 140737488351232) (h4 : l4.length ≤ 140737488351232) (h5 : l5.length ≤ 140737488351232) : Ev (fun k => laws_eqNet.f k l0 l1 l2 l3 l4 l5 l0 l1 l2 l3 l4 l5) true :=
 evc (fun k => laws_eqNet.f.eq_1 ..) (bnd (eqStr_self l0 h0) (ifp rfl (bnd (eqLink_self l1 h1) (ifp rfl (bnd (eqI_self l2 h2) (ifp rfl (bnd (eqI_self l3 h3) (ifp rfl (bnd (eqImport_self l4 h4) (ifp rfl (bnd (eqFilter_self l5 h5) (ifp rfl (sm _)))))))))))))
theorem findL {α : Type} (xs : List α) (p : α → Bool) (L : Int → Nat → Option Int) (hend : Ev (L (xs.length : Int)) (-1))
  (hstep : ∀ (i : Nat) (x : α), xs[i]? = some x → (p x = true → Ev (L (i : Int)) (i : Int)) ∧ (p x = false → ∀ r, Ev (L ((i : Int) + 1)) r → Ev (L (i : Int)) r)) : Ev (L 0) (idxB p xs 0) := by
 have key : ∀ (d i : Nat), i + d = xs.length → Ev (L (i : Int)) (idxB p (xs.drop i) i) := by
  intro d
  induction d with
  | zero =>
   intro i hd
   obtain rfl : i = xs.length := by omega
   rw [List.drop_length]
   exact hend
  | succ d ih =>
   intro i hd
   have hi : i < xs.length := by omega
   obtain ⟨h1, h2⟩ := hstep i xs[i] (List.getElem?_eq_getElem hi)
   rw [List.drop_eq_getElem_cons hi, idxB]
   cases hp : p xs[i] with
   | true => rw [if_pos rfl]; exact h1 hp
   | false =>
    rw [if_neg Bool.false_ne_true]
    have := ih (i + 1) (by omega)
    exact h2 hp _ (by rwa [show ((i + 1 : Nat) : Int) = (i : Int) + 1 by omega] at this)
 have := key xs.length 0 (by omega)
 rwa [List.drop_zero] at this
theorem link_is (l : List S92) (hl : l.length ≤ 140737488351232) (a b : Int) : Ev (fun k => spec_l06Link.f k l a b) (linkI l a b) := by
 refine evc (fun k => spec_l06Link.f.eq_1 ..) ?_
 refine findL l (joinB a b) (fun i k => spec_l06Link.l0 k l a b i) ?_ ?_
 ·exact stp (fun k => spec_l06Link.l0.eq_2 ..) (ifn (by omega) (sm _))
 ·intro i x hx
  have hi : i < l.length := (List.getElem?_eq_some_iff.1 hx).1
  have hr : rd_T92 l (i : Int) = x := getD_some hx
  have hu := up (i := (i : Int)) (by omega) (by omega : (i : Int) < (l.length : Int)) (by omega)
  constructor
  ·intro hp
   refine stp (fun k => spec_l06Link.l0.eq_2 ..) (ifp (by omega) (ifp (by omega) ?_))
   rw [hr]
   unfold joinB at hp
   by_cases h1 : x.f0 = a
   ·refine ifp h1 ?_
    by_cases h2 : x.f1 = b
    ·exact ifp h2 (sm _)
    ·refine ifn h2 ?_
     by_cases h3 : x.f0 = b
     ·refine ifp h3 ?_
      by_cases h4 : x.f1 = a
      ·exact ifp h4 (sm _)
      ·simp [h2, h4] at hp
     ·simp [h2, h3] at hp
   ·refine ifn h1 ?_
    by_cases h3 : x.f0 = b
    ·refine ifp h3 ?_
     by_cases h4 : x.f1 = a
     ·exact ifp h4 (sm _)
     ·simp [h1, h4] at hp
    ·simp [h1, h3] at hp
  ·intro hp r hk
   refine stp (fun k => spec_l06Link.l0.eq_2 ..) (ifp (by omega) (ifp (by omega) ?_))
   rw [hr, hu]
   unfold joinB at hp
   by_cases h1 : x.f0 = a
   ·refine ifp h1 ?_
    by_cases h2 : x.f1 = b
    ·simp [h1, h2] at hp
    ·refine ifn h2 ?_
     by_cases h3 : x.f0 = b
     ·refine ifp h3 ?_
      by_cases h4 : x.f1 = a
      ·simp [h3, h4] at hp
      ·exact ifn h4 hk
     ·exact ifn h3 hk
   ·refine ifn h1 ?_
    by_cases h3 : x.f0 = b
    ·refine ifp h3 ?_
     by_cases h4 : x.f1 = a
     ·simp [h3, h4] at hp
     ·exact ifn h4 hk
    ·exact ifn h3 hk
def sameS (w y : ByteArray) : Bool := decide (y.toList = w.toList)
theorem place_is (l : List ByteArray) (hl : l.length ≤ 140737488351232) (w : ByteArray) : Ev (fun k => spec_l06Place.f k l w) (idxB (sameS w) l 0) := by
 refine evc (fun k => spec_l06Place.f.eq_1 ..) ?_
 refine findL l (sameS w) (fun i k => spec_l06Place.l0 k l w i) ?_ ?_
 ·exact stp (fun k => spec_l06Place.l0.eq_2 ..) (ifn (by omega) (sm _))
 ·intro i x hx
  have hi : i < l.length := (List.getElem?_eq_some_iff.1 hx).1
  have hr : rdOf ByteArray.empty l (i : Int) = x := getD_some hx
  have hu := up (i := (i : Int)) (by omega) (by omega : (i : Int) < (l.length : Int)) (by omega)
  constructor
  ·intro hp
   refine stp (fun k => spec_l06Place.l0.eq_2 ..) (ifp (by omega) (ifp (by omega) (ifp ?_ (sm _))))
   rw [hr]; exact of_decide_eq_true hp
  ·intro hp r hk
   refine stp (fun k => spec_l06Place.l0.eq_2 ..) (ifp (by omega) (ifp (by omega) (ifn ?_ ?_)))
   ·rw [hr]; exact of_decide_eq_false hp
   ·rw [hu]; exact hk
theorem contains_is (l : List ByteArray) (hl : l.length ≤ 140737488351232) (w : ByteArray) : Ev (fun k => slices_Contains_string_string.f k l w) (decide (idxB (sameS w) l 0 ≥ 0)) := by
 refine evc (fun k => slices_Contains_string_string.f.eq_1 ..) (bnd ?_ (sm _))
 refine evc (fun k => slices_Index_string_string.f.eq_1 ..) ?_
 refine findL l (sameS w) (fun i k => slices_Index_string_string.l0 k l w (l.length : Int) i) ?_ ?_
 ·exact stp (fun k => slices_Index_string_string.l0.eq_2 ..) (ifn (by omega) (sm _))
 ·intro i x hx
  have hi : i < l.length := (List.getElem?_eq_some_iff.1 hx).1
  have hr : rdOf ByteArray.empty l (i : Int) = x := getD_some hx
  have hu := up (i := (i : Int)) (by omega) (by omega : (i : Int) < (l.length : Int)) (by omega)
  constructor
  ·intro hp
   refine stp (fun k => slices_Index_string_string.l0.eq_2 ..) (ifp (by omega) (ifp (by omega) (ifp (by omega) (ifp ?_ (sm _)))))
   rw [hr]; exact (of_decide_eq_true hp).symm
  ·intro hp r hk
   refine stp (fun k => slices_Index_string_string.l0.eq_2 ..) (ifp (by omega) (ifp (by omega) (ifp (by omega) (ifn ?_ ?_))))
   ·rw [hr]; exact fun q => of_decide_eq_false hp q.symm
   ·rw [hu]; exact hk
theorem wrap_up {i : Int} {n : Nat} (h0 : 0 ≤ i) (h : i < (n : Int)) (hn : n ≤ 140737488351232) : wrap64 (i + 1) = i + 1 := by
 unfold wrap64
 omega
def lt (c : Int) : Bool := (decide (97 ≤ c) && decide (c ≤ 122)) || (decide (65 ≤ c) && decide (c ≤ 90)) || (c == 95)
def dg (c : Int) : Bool := decide (48 ≤ c) && decide (c ≤ 57)
theorem letter_is (c : Int) : spec_l00Letter.f c = some (lt c) := by
 unfold spec_l00Letter.f lt
 by_cases h1 : 97 ≤ c <;> by_cases h2 : c ≤ 122 <;> by_cases h3 : 65 ≤ c <;> by_cases h4 : c ≤ 90 <;> simp [h1, h2, h3, h4]
theorem digit_is (c : Int) : spec_l00Digit.f c = some (dg c) := by
 unfold spec_l00Digit.f dg
 by_cases h1 : 48 ≤ c <;> simp [h1]
def allOK (s : ByteArray) : Nat → Int → Bool
 | 0, _ => true
 | d + 1, i => (lt (bt s i) || (decide (i ≠ 0) && dg (bt s i))) && allOK s d (i + 1)
theorem impl_step (k : Nat) (s : ByteArray) (i : Int) (h0 : 0 ≤ i) (h1 : i < (s.size : Int)) :
  impl_NameOK.l0 (k + 1) s (s.size : Int) i = if (lt (bt s i) || (decide (i ≠ 0) && dg (bt s i))) = true then impl_NameOK.l0 k s (s.size : Int) (wrap64 (i + 1)) else some false := by
 simp only [impl_NameOK.l0]
 rw [if_pos h1, if_pos h0, if_pos h1]
 generalize bt s i = c
 unfold lt dg
 by_cases g1 : 97 ≤ c <;> by_cases g2 : c ≤ 122 <;> by_cases g3 : 65 ≤ c <;> by_cases g4 : c ≤ 90 <;> by_cases g5 : c = 95 <;> by_cases g6 : i = 0 <;> by_cases g7 : 48 ≤ c <;> by_cases g8 : c ≤ 57 <;> simp [g1, g2, g3, g4, g5, g6, g7, g8]
theorem impl_loop (s : ByteArray) (hn : s.size ≤ 140737488351232) (d : Nat) : ∀ (k : Nat) (i : Int), 0 ≤ i → (s.size : Int) - i = d → d < k →
  impl_NameOK.l0 k s (s.size : Int) i = some (allOK s d i && decide (1 ≤ s.size) && decide (s.size ≤ 40)) := by
 induction d with
 | zero =>
  intro k i h0 hd hk
  obtain ⟨k, rfl⟩ : ∃ m, k = m + 1 := ⟨k - 1, by omega⟩
  simp only [impl_NameOK.l0]
  rw [if_neg (by omega)]
  simp only [impl_within.f, allOK, Bool.true_and]
  by_cases g1 : 1 ≤ s.size
  ·rw [if_pos (by omega)]; simp only [Option.bind_some, decide_eq_true g1, Bool.true_and]
   by_cases g2 : s.size ≤ 40
   ·rw [decide_eq_true g2, decide_eq_true (by omega)]
   ·rw [decide_eq_false g2, decide_eq_false (by omega)]
  ·rw [if_neg (by omega)]; simp only [Option.bind_some, decide_eq_false g1, Bool.false_and]
 | succ d ih =>
  intro k i h0 hd hk
  obtain ⟨k, rfl⟩ : ∃ m, k = m + 1 := ⟨k - 1, by omega⟩
  rw [impl_step k s i h0 (by omega)]
  simp only [allOK]
  cases h : (lt (bt s i) || (decide (i ≠ 0) && dg (bt s i))) with
  | true => rw [if_pos rfl, wrap_up h0 (by omega) hn, ih k (i + 1) (by omega) (by omega) (by omega)]; simp
  | false => simp
theorem spec_loop (s : ByteArray) (hn : s.size ≤ 140737488351232) (d : Nat) : ∀ (k : Nat) (i : Int), 1 ≤ i → (s.size : Int) - i = d → d < k →
  spec_l00Word.l0 k s i = some (allOK s d i) := by
 induction d with
 | zero =>
  intro k i h0 hd hk
  obtain ⟨k, rfl⟩ : ∃ m, k = m + 1 := ⟨k - 1, by omega⟩
  simp only [spec_l00Word.l0]
  rw [if_neg (by omega)]
  simp only [allOK]
 | succ d ih =>
  intro k i h0 hd hk
  obtain ⟨k, rfl⟩ : ∃ m, k = m + 1 := ⟨k - 1, by omega⟩
  simp only [spec_l00Word.l0, letter_is, digit_is, Option.bind_some, allOK]
  rw [if_pos (by omega), if_pos (by omega), wrap_up (by omega) (by omega) hn, ih k (i + 1) (by omega) (by omega) (by omega), decide_eq_true (by omega : i ≠ 0)]
  cases lt (bt s i) <;> cases dg (bt s i) <;> simp
theorem spec_is (s : ByteArray) (hn : s.size ≤ 140737488351232) (k : Nat) (hk : s.size + 2 < k) :
  spec_NameOK.f k s = some (allOK s s.size 0 && decide (1 ≤ s.size) && decide (s.size ≤ 40)) := by
 obtain ⟨k, rfl⟩ : ∃ m, k = m + 1 := ⟨k - 1, by omega⟩
 unfold spec_NameOK.f spec_l00Word.f
 by_cases g1 : 1 ≤ s.size
 ·rw [if_neg (by omega)]
  by_cases g2 : s.size ≤ 40
  ·rw [if_neg (by omega), if_pos (by omega), letter_is]
   simp only [Option.bind_some, spec_l00Word.j0, decide_eq_true g1, decide_eq_true g2, Bool.and_true]
   rw [spec_loop s hn (s.size - 1) k 1 (by omega) (by omega) (by omega)]
   obtain ⟨m, hm⟩ : ∃ m, s.size = m + 1 := ⟨s.size - 1, by omega⟩
   rw [hm]
   simp only [allOK, Nat.add_sub_cancel]
   cases lt (bt s 0) <;> simp
  ·rw [if_pos (by omega)]
   simp only [Option.bind_some, spec_l00Word.j0, decide_eq_false g2, Bool.and_false]
   rfl
 ·rw [if_pos (by omega)]
  simp only [Option.bind_some, spec_l00Word.j0, decide_eq_false g1, Bool.and_false, Bool.false_and]
  rfl
def nameB (s : ByteArray) : Bool := allOK s s.size 0 && decide (1 ≤ s.size) && decide (s.size ≤ 40)
theorem sname_is (s : ByteArray) (hn : s.size ≤ 140737488351232) : Ev (fun k => spec_NameOK.f k s) (nameB s) := ⟨s.size + 3, fun k hk => spec_is s hn k (by omega)⟩
theorem iname_is (s : ByteArray) (hn : s.size ≤ 140737488351232) : Ev (fun k => impl_NameOK.f k s) (nameB s) := ⟨s.size + 3, fun k hk => by unfold impl_NameOK.f; exact impl_loop s hn s.size k 0 (by omega) (by omega) (by omega)⟩
def nmB (all : List ByteArray) : List ByteArray → Nat → Bool
 | [], _ => true
 | y :: r, i => nameB y && (!(decide (idxB (sameS y) (all.take i) 0 ≥ 0)) && nmB all r (i + 1))
theorem snames_is (all : List ByteArray) (ha : all.length ≤ 140737488351232) : ∀ (l : List ByteArray) (i : Nat), (∀ x ∈ l, x.size ≤ 140737488351232) → Ev (fun k => snamesO k all l i) (nmB all l i)
 | [], i, _ => evc (fun k => snamesO.eq_1 ..) (sm _)
 | y :: r, i, h => by
  refine evc (fun k => snamesO.eq_2 ..) (bnd (sname_is y (h y List.mem_cons_self)) ?_)
  rw [nmB]
  cases nameB y with
  | false => exact ifn Bool.false_ne_true (sm _)
  | true =>
   refine ifp rfl (bnd (place_is (all.take i) (by rw [List.length_take]; omega) y) ?_)
   by_cases hq : idxB (sameS y) (all.take i) 0 ≥ 0
   ·rw [decide_eq_true hq]; exact ifp hq (sm _)
   ·rw [decide_eq_false hq, Bool.not_false, Bool.true_and, Bool.true_and]
    exact ifn hq (snames_is all ha r (i + 1) (fun x hx => h x (List.mem_cons_of_mem _ hx)))
theorem inames_is (all : List ByteArray) (ha : all.length ≤ 140737488351232) : ∀ (l : List ByteArray) (i : Nat), (∀ x ∈ l, x.size ≤ 140737488351232) → Ev (fun k => namesO k all l i) (nmB all l i)
 | [], i, _ => evc (fun k => namesO.eq_1 ..) (sm _)
 | y :: r, i, h => by
  refine evc (fun k => namesO.eq_2 ..) (bnd (iname_is y (h y List.mem_cons_self)) ?_)
  rw [nmB]
  cases nameB y with
  | false => exact ifn Bool.false_ne_true (sm _)
  | true =>
   refine ifp rfl (bnd (contains_is (all.take i) (by rw [List.length_take]; omega) y) ?_)
   cases hq : decide (idxB (sameS y) (all.take i) 0 ≥ 0) with
   | true => exact ifp rfl (sm _)
   | false =>
    rw [Bool.not_false, Bool.true_and, Bool.true_and]
    exact ifn Bool.false_ne_true (inames_is all ha r (i + 1) (fun x hx => h x (List.mem_cons_of_mem _ hx)))
def risB (n : Nat) (l : List Int) : Nat → Nat → Bool
 | 0, _ => true
 | d + 1, i => (inB (l.getD i 0) 0 ((n : Int) - 1) && !(decide (i > 0) && decide (l.getD (i - 1) 0 ≥ l.getD i 0))) && risB n l d (i + 1)
theorem lin_is (a lo hi : Int) : spec_l01In.f a lo hi = some (inB a lo hi) := sin_is a lo hi
theorem rising_is (n : Nat) (hn : 1 ≤ n) (hn4 : n ≤ 4) (l : List Int) (hl : l.length ≤ 140737488351232) : Ev (fun k => spec_l06Rising.f k l (n : Int)) (risB n l l.length 0) := by
 refine evc (fun k => spec_l06Rising.f.eq_1 ..) ?_
 have key : ∀ (d i : Nat), i + d = l.length → Ev (fun k => spec_l06Rising.l0 k l (n : Int) (i : Int)) (risB n l d i) := by
  intro d
  induction d with
  | zero => intro i hd; exact stp (fun k => spec_l06Rising.l0.eq_2 ..) (ifn (by omega) (sm _))
  | succ d ih =>
   intro i hd
   have hr : rd l (i : Int) = l.getD i 0 := by unfold rd; rw [Int.toNat_natCast]
   have hnx := ih (i + 1) (by omega)
   rw [show ((i + 1 : Nat) : Int) = (i : Int) + 1 by omega] at hnx
   refine stp (fun k => spec_l06Rising.l0.eq_2 ..) (ifp (by omega) (ifp (by omega) ?_))
   rw [hr, w64 (x := (n : Int) - 1) (by omega) (by omega), up (i := (i : Int)) (by omega) (by omega : (i : Int) < (l.length : Int)) (by omega), risB]
   refine bnd0 (lin_is _ _ _) ?_
   cases inB (l.getD i 0) 0 ((n : Int) - 1) with
   | false => exact ifn Bool.false_ne_true (sm _)
   | true =>
    refine ifp rfl ?_
    rw [Bool.true_and]
    by_cases h0 : i > 0
    ·have hr1 : rd l (wrap64 ((i : Int) - 1)) = l.getD (i - 1) 0 := by rw [w64 (by omega) (by omega)]; unfold rd; rw [show ((i : Int) - 1).toNat = i - 1 by omega]
     refine ifp (by omega) (ifp (by rw [w64 (by omega) (by omega)]; omega) (ifp (by rw [w64 (by omega) (by omega)]; omega) ?_))
     rw [hr1, decide_eq_true h0, Bool.true_and]
     by_cases h1 : l.getD (i - 1) 0 ≥ l.getD i 0
     ·rw [decide_eq_true h1]; exact ifp h1 (sm _)
     ·rw [decide_eq_false h1]; exact ifn h1 hnx
    ·rw [decide_eq_false h0]; exact ifn (by omega) hnx
 have := key l.length 0 (by omega)
 exact this
theorem routers_is (l0 : List ByteArray) (l1 : List S92) (l2 l3 : List Int) (l4 : List S95) (l5 : List S97) (hn : 1 ≤ l0.length) (hn4 : l0.length ≤ 4) (l : List Int) (hl : l.length ≤ 140737488351232) : Ev (fun k => impl_areRouters.f k l0 l1 l2 l3 l4 l5 l) (risB l0.length l l.length 0) := by
 refine evc (fun k => impl_areRouters.f.eq_1 ..) ?_
 have key : ∀ (d i : Nat), i + d = l.length → Ev (fun k => impl_areRouters.l0 k l l (l.length : Int) (i : Int) l0 l1 l2 l3 l4 l5) (risB l0.length l d i) := by
  intro d
  induction d with
  | zero => intro i hd; exact stp (fun k => impl_areRouters.l0.eq_2 ..) (ifn (by omega) (sm _))
  | succ d ih =>
   intro i hd
   have hr : rd l (i : Int) = l.getD i 0 := by unfold rd; rw [Int.toNat_natCast]
   have hnx := ih (i + 1) (by omega)
   rw [show ((i + 1 : Nat) : Int) = (i : Int) + 1 by omega] at hnx
   refine stp (fun k => impl_areRouters.l0.eq_2 ..) (ifp (by omega) (ifp (by omega) (ifp (by omega) ?_)))
   rw [hr, up (i := (i : Int)) (by omega) (by omega : (i : Int) < (l.length : Int)) (by omega), risB]
   refine bnd0 (a := inB (l.getD i 0) 0 ((l0.length : Int) - 1)) ?_ ?_
   ·unfold impl_isRouter.f
    rw [w64 (x := (l0.length : Int) - 1) (by omega) (by omega), within_is]
    rfl
   cases inB (l.getD i 0) 0 ((l0.length : Int) - 1) with
   | false => exact ifn Bool.false_ne_true (sm _)
   | true =>
    refine ifp rfl ?_
    rw [Bool.true_and]
    by_cases h0 : i > 0
    ·have hr1 : rd l (wrap64 ((i : Int) - 1)) = l.getD (i - 1) 0 := by rw [w64 (by omega) (by omega)]; unfold rd; rw [show ((i : Int) - 1).toNat = i - 1 by omega]
     refine ifp (by omega) (ifp (by rw [w64 (by omega) (by omega)]; omega) (ifp (by rw [w64 (by omega) (by omega)]; omega) ?_))
     rw [hr1, decide_eq_true h0, Bool.true_and]
     by_cases h1 : l.getD (i - 1) 0 ≥ l.getD i 0
     ·rw [decide_eq_true h1]; exact ifp h1 (sm _)
     ·rw [decide_eq_false h1]; exact ifn h1 hnx
    ·rw [decide_eq_false h0]; exact ifn (by omega) hnx
 exact key l.length 0 (by omega)
theorem idxB_nonneg {α : Type} (p : α → Bool) : ∀ (l : List α) (i : Nat), (l.any p = true → (i : Int) ≤ idxB p l i ∧ idxB p l i < i + l.length) ∧ (l.any p = false → idxB p l i = -1)
 | [], i => ⟨fun h => by simp at h, fun _ => rfl⟩
 | x :: r, i => by
  obtain ⟨h1, h2⟩ := idxB_nonneg p r (i + 1)
  rw [List.any_cons, idxB]
  cases hp : p x with
  | true => exact ⟨fun _ => by rw [if_pos rfl, List.length_cons]; omega, fun h => by cases h⟩
  | false =>
   rw [Bool.false_or, if_neg Bool.false_ne_true, List.length_cons]
   exact ⟨fun h => by have := h1 h; omega, h2⟩
theorem idxB_ge {α : Type} (p : α → Bool) (l : List α) : decide (idxB p l 0 ≥ 0) = l.any p := by
 obtain ⟨h1, h2⟩ := idxB_nonneg p l 0
 cases h : l.any p with
 | true => exact decide_eq_true (by have := h1 h; omega)
 | false => exact decide_eq_false (by rw [h2 h]; omega)
theorem idxB_app {α : Type} (p : α → Bool) (x : α) (r : List α) (hx : p x = true) : ∀ (l : List α) (i : Nat), decide (idxB p (l ++ x :: r) i < ((i + l.length : Nat) : Int)) = l.any p
 | [], i => by
  rw [List.nil_append, idxB, if_pos hx]
  exact decide_eq_false (by simp)
 | y :: l, i => by
  have ih := idxB_app p x r hx l (i + 1)
  rw [List.cons_append, idxB, List.any_cons]
  cases hp : p y with
  | true => rw [if_pos rfl, Bool.true_or, List.length_cons]; exact decide_eq_true (by omega)
  | false =>
   rw [if_neg Bool.false_ne_true, Bool.false_or, ← ih, List.length_cons, show i + (l.length + 1) = i + 1 + l.length by omega]
theorem slinks_is (n : Nat) (all : List S92) (ha : all.length ≤ 140737488351232) : ∀ (l : List S92) (pre : List S92), all = pre ++ l → Ev (fun k => slinksO k n all l pre.length) (linksB n all l pre.length)
 | [], pre, _ => evc (fun k => slinksO.eq_1 ..) (sm _)
 | x :: r, pre, h => by
  refine evc (fun k => slinksO.eq_2 ..) ?_
  have hj : joinB x.f0 x.f1 x = true := by unfold joinB; simp
  have hlt := idxB_app (joinB x.f0 x.f1) x r hj pre 0
  rw [Nat.zero_add, ← h] at hlt
  have htk : all.take pre.length = pre := by rw [h]; simp
  have hge := idxB_ge (joinB x.f0 x.f1) pre
  have hnx := slinks_is n all ha r (pre ++ [x]) (by rw [h]; simp)
  rw [List.length_append, List.length_singleton] at hnx
  rw [linksB]
  unfold linkB linkI
  rw [hlt]
  unfold routerB inB
  cases decide (0 ≤ x.f0) && decide (x.f0 ≤ (n : Int) - 1) with
  | false => exact ifp rfl (sm _)
  | true =>
   cases decide (0 ≤ x.f1) && decide (x.f1 ≤ (n : Int) - 1) with
   | false => exact ifp rfl (sm _)
   | true =>
    cases x.f0 == x.f1 with
    | true => exact ifp rfl (sm _)
    | false =>
     cases decide (1 ≤ x.f2) && decide (x.f2 ≤ 100) with
     | false => 
      rw [show ((true && (true && (!false && (!(pre.any (joinB x.f0 x.f1)) && false)))) && linksB n all r (pre.length + 1)) = false from by simp]
      exact ifp rfl (sm _)
     | true =>
      refine ifn (by decide) (bnd (link_is (all.take pre.length) (by rw [List.length_take]; omega) x.f0 x.f1) ?_)
      rw [htk]
      unfold linkI
      rw [hge]
      cases pre.any (joinB x.f0 x.f1) with
      | true => exact ifp rfl (sm _)
      | false => exact ifn Bool.false_ne_true hnx
theorem simps_is (all : List S92) (ha : all.length ≤ 140737488351232) : ∀ (l : List S95), Ev (fun k => simpsO k all l) (!(l.any (impBad all)))
 | [] => evc (fun k => simpsO.eq_1 ..) (sm _)
 | x :: r => by
  have hnx := simps_is all ha r
  refine evc (fun k => simpsO.eq_2 ..) (bnd (link_is all ha x.f0 x.f1) ?_)
  rw [List.any_cons]
  unfold impBad
  by_cases hq : linkI all x.f0 x.f1 < 0
  ·rw [decide_eq_true hq, Bool.true_or, Bool.true_or]; exact ifp hq (sm _)
  ·rw [decide_eq_false hq, Bool.false_or]
   refine ifn hq ?_
   unfold importB
   cases inB x.f2 0 2 with
   | false => exact ifn Bool.false_ne_true (sm _)
   | true =>
    refine ifp rfl ?_
    cases inB x.f3 1 4 with
    | false => exact ifn Bool.false_ne_true (sm _)
    | true =>
     refine ifp rfl ?_
     by_cases h2 : x.f3 = 2
     ·refine ifp (by rw [h2]; rfl) ?_
      rw [if_pos h2]
      cases inB x.f4 0 1000 with
      | false => exact ifn Bool.false_ne_true (sm _)
      | true => exact ifp rfl hnx
     ·refine ifn (by simpa using h2) ?_
      rw [if_neg h2]
      by_cases h4 : x.f4 = 0
      ·refine ifp (by simpa using h4) ?_
       rw [show inB x.f4 0 0 = true from by unfold inB; simp [h4]]
       exact hnx
      ·refine ifn (by simpa using h4) ?_
       rw [show inB x.f4 0 0 = false from by unfold inB; rw [Bool.and_eq_false_iff]; simp; omega]
       exact sm _
theorem sfilts_is (all : List S92) (ha : all.length ≤ 140737488351232) : ∀ (l : List S97), Ev (fun k => sfiltsO k all l) (!(l.any (filtBad all)))
 | [] => evc (fun k => sfiltsO.eq_1 ..) (sm _)
 | x :: r => by
  have hnx := sfilts_is all ha r
  refine evc (fun k => sfiltsO.eq_2 ..) (bnd (link_is all ha x.f0 x.f1) ?_)
  rw [List.any_cons]
  unfold filtBad
  by_cases hq : linkI all x.f0 x.f1 < 0
  ·rw [decide_eq_true hq, Bool.true_or, Bool.true_or]; exact ifp hq (sm _)
  ·rw [decide_eq_false hq, Bool.false_or]
   refine ifn hq ?_
   have hz : (!(!inB x.f2 0 x.f3 || decide (x.f3 > 15))) = (inB x.f2 0 15 && inB x.f3 x.f2 15) := by
    unfold inB
    rw [Bool.eq_iff_iff]
    simp
    omega
   rw [Bool.not_or, hz]
   cases inB x.f2 0 15 with
   | false => exact ifn Bool.false_ne_true (sm _)
   | true =>
    refine ifp rfl ?_
    cases inB x.f3 x.f2 15 with
    | false => exact ifn Bool.false_ne_true (sm _)
    | true => exact ifp rfl hnx
def netB (l0 : List ByteArray) (l1 : List S92) (l2 l3 : List Int) (l4 : List S95) (l5 : List S97) : Bool :=
 (inB l0.length 1 4 && (decide (l1.length ≤ 6) && (decide (l4.length ≤ 12) && decide (l5.length ≤ 6)))) && (risB l0.length l2 l2.length 0 && (risB l0.length l3 l3.length 0 && (decide (l3.length ≤ 2) && (nmB l0 l0 0 && (linksB l0.length l1 l1 0 && (!(l4.any (impBad l1)) && !(l5.any (filtBad l1))))))))
section
variable (l0 : List ByteArray) (l1 : List S92) (l2 l3 : List Int) (l4 : List S95) (l5 : List S97) (hs : ∀ x ∈ l0, x.size ≤ 140737488351232) (h2 : l2.length ≤ 140737488351232) (h3 : l3.length ≤ 140737488351232)
theorem netB_no (h : ¬ (inB l0.length 1 4 = true ∧ l1.length ≤ 6 ∧ l4.length ≤ 12 ∧ l5.length ≤ 6)) : netB l0 l1 l2 l3 l4 l5 = false := by
 unfold netB
 rw [Bool.and_eq_false_iff]
 left
 rw [Bool.eq_false_iff]
 intro q
 simp only [Bool.and_eq_true, decide_eq_true_eq] at q
 exact h ⟨q.1, q.2.1, q.2.2.1, q.2.2.2⟩
theorem netB_yes (h : inB l0.length 1 4 = true ∧ l1.length ≤ 6 ∧ l4.length ≤ 12 ∧ l5.length ≤ 6) : netB l0 l1 l2 l3 l4 l5 = (risB l0.length l2 l2.length 0 && (risB l0.length l3 l3.length 0 && (decide (l3.length ≤ 2) && (nmB l0 l0 0 && (linksB l0.length l1 l1 0 && (!(l4.any (impBad l1)) && !(l5.any (filtBad l1)))))))) := by
 unfold netB
 rw [h.1, decide_eq_true h.2.1, decide_eq_true h.2.2.1, decide_eq_true h.2.2.2]
 rfl
include hs h2 h3
theorem specNet_is : Ev (fun k => spec_NetOK.f k l0 l1 l2 l3 l4 l5) (netB l0 l1 l2 l3 l4 l5) := by
 refine evc (fun k => spec_NetOK.f.eq_1 ..) ?_
 by_cases hg : inB l0.length 1 4 = true ∧ l1.length ≤ 6 ∧ l4.length ≤ 12 ∧ l5.length ≤ 6
 ·have hn : 1 ≤ l0.length ∧ l0.length ≤ 4 := by have := hg.1; unfold inB at this; simp at this; omega
  rw [netB_yes l0 l1 l2 l3 l4 l5 hg]
  refine ifp hg (bnd (rising_is _ hn.1 hn.2 l2 h2) ?_)
  cases risB l0.length l2 l2.length 0 with
  | false => exact ifn Bool.false_ne_true (sm _)
  | true =>
   refine ifp rfl (bnd (rising_is _ hn.1 hn.2 l3 h3) ?_)
   cases risB l0.length l3 l3.length 0 with
   | false => exact ifn Bool.false_ne_true (sm _)
   | true =>
    refine ifp rfl ?_
    by_cases h9 : l3.length ≤ 2
    ·refine ifp h9 (bnd (snames_is l0 (by omega) l0 0 hs) ?_)
     rw [decide_eq_true h9]
     cases nmB l0 l0 0 with
     | false => exact ifn Bool.false_ne_true (sm _)
     | true =>
      refine ifp rfl (bnd (slinks_is l0.length l1 (by omega) l1 [] rfl) ?_)
      rw [List.length_nil]
      cases linksB l0.length l1 l1 0 with
      | false => exact ifn Bool.false_ne_true (sm _)
      | true =>
       refine ifp rfl (bnd (simps_is l1 (by omega) l4) ?_)
       cases l4.any (impBad l1) with
       | true => exact ifn Bool.false_ne_true (sm _)
       | false => exact ifp rfl (sfilts_is l1 (by omega) l5)
    ·rw [decide_eq_false h9]
     exact ifn h9 (sm _)
 ·rw [netB_no l0 l1 l2 l3 l4 l5 hg]
  exact ifn hg (sm _)
theorem implNet_is : Ev (fun k => impl_isNet.f k l0 l1 l2 l3 l4 l5) (netB l0 l1 l2 l3 l4 l5) := by
 refine evc (fun k => impl_isNet.f.eq_1 ..) ?_
 by_cases hg : inB l0.length 1 4 = true ∧ l1.length ≤ 6 ∧ l4.length ≤ 12 ∧ l5.length ≤ 6
 ·have hn : 1 ≤ l0.length ∧ l0.length ≤ 4 := by have := hg.1; unfold inB at this; simp at this; omega
  rw [netB_yes l0 l1 l2 l3 l4 l5 hg]
  have hra := routers_is l0 l1 l2 l3 l4 l5 hn.1 hn.2 l2 h2
  have hrb := routers_is l0 l1 l2 l3 l4 l5 hn.1 hn.2 l3 h3
  refine ifp hg (bnd (inames_is l0 (by omega) l0 0 hs) ?_)
  cases nmB l0 l0 0 with
  | false => simp only [Bool.false_and, Bool.and_false]; exact ifn Bool.false_ne_true (sm _)
  | true =>
   refine ifp rfl ?_
   cases linksB l0.length l1 l1 0 with
   | false => simp only [Bool.false_and, Bool.and_false]; exact ifn Bool.false_ne_true (sm _)
   | true =>
    refine ifp rfl ?_
    cases l4.any (impBad l1) with
    | true => simp only [Bool.not_true, Bool.false_and, Bool.and_false]; exact ifp trivial (sm _)
    | false =>
     refine ifn Bool.false_ne_true ?_
     cases l5.any (filtBad l1) with
     | true => simp only [Bool.not_true, Bool.false_and, Bool.and_false]; exact ifp trivial (sm _)
     | false =>
      refine ifn Bool.false_ne_true (bnd hra ?_)
      cases risB l0.length l2 l2.length 0 with
      | false => exact ifn Bool.false_ne_true (sm _)
      | true =>
       refine ifp rfl (bnd hrb ?_)
       simp only [Bool.not_false, Bool.true_and, Bool.and_true]
       exact sm _
 ·rw [netB_no l0 l1 l2 l3 l4 l5 hg]
  exact ifn hg (sm _)
end
theorem FnExactNetOK : laws_FnExactNetOK.Pure := by
 intro l0 l1 l2 l3 l4 l5 w0 w1 w2 w3 w4 w5
 obtain ⟨b0, s0⟩ := w0
 obtain ⟨b1, s1⟩ := w1
 obtain ⟨b2, s2⟩ := w2
 obtain ⟨b3, s3⟩ := w3
 obtain ⟨b4, s4⟩ := w4
 obtain ⟨b5, s5⟩ := w5
 refine Ev.rounds ?_
 refine evc (fun k => laws_FnExactNetOK.f.eq_1 ..) ?_
 obtain ⟨v, hv, hle⟩ := szNet_is l0 l1 l2 l3 l4 l5 s0 (by omega) (by omega) (by omega) (by omega) (by omega) (by omega)
 refine bnd hv ?_
 by_cases h : v < 0
 ·exact ifp h (sm _)
 ·have hto := toNet_is l0 l1 l2 l3 l4 l5 (by omega) (by omega) (by omega) (by omega) (by omega) (by omega)
  refine ifn h (bnd hto ?_)
  refine bnd (specNet_is l0 (l1.map cvL) l2 l3 (l4.map cvI) (l5.map cvF) s0 (by omega) (by omega)) (bnd hto ?_)
  refine bnd (evc (fun k => impl_NetOK.f.eq_1 ..) (bnd (implNet_is l0 (l1.map cvL) l2 l3 (l4.map cvI) (l5.map cvF) s0 (by omega) (by omega)) (sm _))) ?_
  refine ifn (by simp) (bnd hto (bnd (eqNet_self l0 (l1.map cvL) l2 l3 (l4.map cvI) (l5.map cvF) (by omega) (by rw [List.length_map]; omega) (by omega) (by omega) (by rw [List.length_map]; omega) (by rw [List.length_map]; omega)) (ifp rfl (sm _))))
end Go.Proofs.Ytgibacfgjmdjdaa.Pure
end
