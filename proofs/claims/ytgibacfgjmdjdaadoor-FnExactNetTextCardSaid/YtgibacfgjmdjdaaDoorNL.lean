/- FnExactNetText: the law, walked. Conditions: the form's own reach alone. -/
import Derived.Test.YtgibacfgjmdjdaaDoorNT
import Derived.Test.YtgibacfgjmdjdaaDoorNF
namespace Go.Proofs.YtgibacfgjmdjdaaDoor.PFnExactIsStable
open Go.RowKit Go.Proofs.YtgibacfgjmdjdaaDoorW.PrintWords Go.Proofs.YtgibacfgjmdjdaaDoorW.PrintLast Go.Proofs.YtgibacfgjmdjdaaDoorW.PrintMore
attribute [local go_sem] max2_int min2_int max_two min_two max_three min_three max_four min_four   -- for this text's walks alone
set_option linter.unusedVariables false
set_option linter.unusedSimpArgs false
set_option maxHeartbeats 80000000
set_option maxRecDepth 100000
section
variable {P : World → Prop} {V V2 : World} {ok S : Nat → Prop}
theorem foot_below (h : Foot P V ok) (hb : Below V.heap.size V V2) : Foot P V2 ok := h.step (fun k _ hlt => hb.block k hlt)
theorem foot_R {α : Type} {d : Kd α} {e base : Nat} {v : Value} {xs : List α} (h : d.R e V base ok v xs) : Foot (fun V => d.R e V base ok v xs) V ok := fun W' hW => Kd.R_step h hW
theorem foot_blk {g : Nat} {o : Obj} (h : V.heap[g]? = some o) (hok : ok g) : Foot (fun V => V.heap[g]? = some o) V ok := fun W' hW => (hW g hok (blk_lt h)).trans h
theorem foot_and {Q : World → Prop} (h : Foot P V ok) (k : Foot Q V ok) : Foot (fun V => P V ∧ Q V) V ok := fun W' hW => ⟨h W' hW, k W' hW⟩
theorem drawn_below (h : Drawn0 V V2) : Below V.heap.size V V2 := by
 obtain ⟨n, rfl⟩ := h.out
 exact pw_below_drewN (Below.refl _ _) n
theorem foot_C {α : Type} {d : Kd α} {A : Option Addr} {n : Nat} {xs : List α} (hd : Kd.Heap d) (h : d.C V A n xs) : Foot (fun V => d.C V A n xs) V (fun k => k < V.heap.size) := Kd.C_F hd h
end
theorem heap107 : Kd.Heap k107 := Kd.heap_iso _ (Kd.heap_pair (Kd.heap_int .i64) (Kd.heap_pair (Kd.heap_int .i64) (Kd.heap_int .i64)))
theorem heap109 : Kd.Heap k109 := Kd.heap_iso _ (Kd.heap_pair (Kd.heap_int .i64) (Kd.heap_pair (Kd.heap_int .i64) (Kd.heap_pair (Kd.heap_int .i64) (Kd.heap_pair (Kd.heap_int .i64) (Kd.heap_int .i64)))))
theorem heap111 : Kd.Heap k111 := Kd.heap_iso _ (Kd.heap_pair (Kd.heap_int .i64) (Kd.heap_pair (Kd.heap_int .i64) (Kd.heap_pair (Kd.heap_int .i64) (Kd.heap_int .i64))))
def NP (lo : Nat) (ok : Nat → Prop) (A0 : Option Addr) (c0 : Nat) (A1 : Option Addr) (c1 : Nat) (A2 : Option Addr) (c2 : Nat) (A3 : Option Addr) (c3 : Nat) (A4 : Option Addr) (c4 : Nat) (A5 : Option Addr) (c5 : Nat) (q0 : List ByteArray) (q1 : List S92) (q2 : List Int) (q3 : List Int) (q4 : List S95) (q5 : List S97) (V : World) : Prop := Kd.R Kd.string 9 V lo ok (.slice A0 q0.length c0) q0 ∧ Kd.R k92 62 V lo ok (.slice A1 q1.length c1) q1 ∧ Kd.R (Kd.int .i64) 3 V lo ok (.slice A2 q2.length c2) q2 ∧ Kd.R (Kd.int .i64) 3 V lo ok (.slice A3 q3.length c3) q3 ∧ Kd.R k95 65 V lo ok (.slice A4 q4.length c4) q4 ∧ Kd.R k97 67 V lo ok (.slice A5 q5.length c5) q5
section
variable {V W : World} {lo : Nat} {ok ok' : Nat → Prop} {A0 : Option Addr} {c0 : Nat} {A1 : Option Addr} {c1 : Nat} {A2 : Option Addr} {c2 : Nat} {A3 : Option Addr} {c3 : Nat} {A4 : Option Addr} {c4 : Nat} {A5 : Option Addr} {c5 : Nat} {q0 : List ByteArray} {q1 : List S92} {q2 : List Int} {q3 : List Int} {q4 : List S95} {q5 : List S97} {kf : Nat}
theorem NP.foot (h : NP lo ok A0 c0 A1 c1 A2 c2 A3 c3 A4 c4 A5 c5 q0 q1 q2 q3 q4 q5 V) : Foot (NP lo ok A0 c0 A1 c1 A2 c2 A3 c3 A4 c4 A5 c5 q0 q1 q2 q3 q4 q5) V ok := fun W' hW => ⟨Kd.R_step h.1 hW, Kd.R_step h.2.1 hW, Kd.R_step h.2.2.1 hW, Kd.R_step h.2.2.2.1 hW, Kd.R_step h.2.2.2.2.1 hW, Kd.R_step h.2.2.2.2.2 hW⟩
set_option maxHeartbeats 1000000 in
theorem toNet_any {w : World} (b0 : Nat) (hb0 : b0 ≤ w.heap.size) (a0 : Option Addr) (d0 : Nat) (l0 : List ByteArray) (a1 : Option Addr) (d1 : Nat) (l1 : List S107) (a2 : Option Addr) (d2 : Nat) (l2 : List Int) (a3 : Option Addr) (d3 : Nat) (l3 : List Int) (a4 : Option Addr) (d4 : Nat) (l4 : List S109) (a5 : Option Addr) (d5 : Nat) (l5 : List S111) (q0 : List ByteArray) (q1 : List S92) (q2 : List Int) (q3 : List Int) (q4 : List S95) (q5 : List S97) (hr0 : Kd.C Kd.string w a0 l0.length l0) (hc0 : l0.length ≤ d0) (hr1 : Kd.C k107 w a1 l1.length l1) (hc1 : l1.length ≤ d1) (hr2 : Kd.C (Kd.int .i64) w a2 l2.length l2) (hc2 : l2.length ≤ d2) (hr3 : Kd.C (Kd.int .i64) w a3 l3.length l3) (hc3 : l3.length ≤ d3) (hr4 : Kd.C k109 w a4 l4.length l4) (hc4 : l4.length ≤ d4) (hr5 : Kd.C k111 w a5 l5.length l5) (hc5 : l5.length ≤ d5) (h : laws_toNet.f kf l0 l1 l2 l3 l4 l5 = some (q0, q1, q2, q3, q4, q5)) :
  Calls Tryd.prog 6 #[.agg #[.slice a0 l0.length d0, .slice a1 l1.length d1, .slice a2 l2.length d2, .slice a3 l3.length d3, .slice a4 l4.length d4, .slice a5 l5.length d5]] w fun e w' => ∃ (A0 : Option Addr) (c0 : Nat) (A1 : Option Addr) (c1 : Nat) (A2 : Option Addr) (c2 : Nat) (A3 : Option Addr) (c3 : Nat) (A4 : Option Addr) (c4 : Nat) (A5 : Option Addr) (c5 : Nat), e = .returned (.agg #[.slice A0 q0.length c0, .slice A1 q1.length c1, .slice A2 q2.length c2, .slice A3 q3.length c3, .slice A4 q4.length c4, .slice A5 q5.length c5]) ∧ NP b0 (fun k => w.heap.size ≤ k ∧ k < w'.heap.size) A0 c0 A1 c1 A2 c2 A3 c3 A4 c4 A5 c5 q0 q1 q2 q3 q4 q5 w' ∧ (∀ k, some k = (.slice A2 q2.length c2 : Value).ownBlock → ¬ some k = (.slice A3 q3.length c3 : Value).ownBlock) ∧ Below w.heap.size w w' := by
 refine (laws_toNet.calls kf a0 d0 l0 a1 d1 l1 a2 d2 l2 a3 d3 l3 a4 d4 l4 a5 d5 l5 q0 q1 q2 q3 q4 q5 w hr0 hc0 hr1 hc1 hr2 hc2 hr3 hc3 hr4 hc4 hr5 hc5 h).mono ?_
 rintro e w' ⟨v0, v1, v2, v3, v4, v5, rfl, h0, h1, h2, h3, h4, h5, hb⟩
 obtain ⟨A0, c0, e0⟩ := Kd.R_slice h0
 subst e0
 obtain ⟨A1, c1, e1⟩ := Kd.R_slice h1
 subst e1
 obtain ⟨A2, c2, e2⟩ := Kd.R_slice h2
 subst e2
 obtain ⟨A3, c3, e3⟩ := Kd.R_slice h3
 subst e3
 obtain ⟨A4, c4, e4⟩ := Kd.R_slice h4
 subst e4
 obtain ⟨A5, c5, e5⟩ := Kd.R_slice h5
 subst e5
 refine ⟨A0, c0, A1, c1, A2, c2, A3, c3, A4, c4, A5, c5, rfl, ⟨Kd.R_mono (Kd.R_lower (Kd.R_bound h0) hb0) (fun k hk => ⟨hk.2.1, hk.2.2.1⟩), Kd.R_mono (Kd.R_lower (Kd.R_bound h1) hb0) (fun k hk => ⟨hk.2.1, hk.2.2.1⟩), Kd.R_mono (Kd.R_lower (Kd.R_bound h2) hb0) (fun k hk => ⟨hk.2.1, hk.2.2.1⟩), Kd.R_mono (Kd.R_lower (Kd.R_bound h3) hb0) (fun k hk => ⟨hk.2.1, hk.2.2.1⟩), Kd.R_mono (Kd.R_lower (Kd.R_bound h4) hb0) (fun k hk => ⟨hk.2.1, hk.2.2.1⟩), Kd.R_mono (Kd.R_lower (Kd.R_bound h5) hb0) (fun k hk => ⟨hk.2.1, hk.2.2.1⟩)⟩, (fun k e => h2.1 k e.symm), hb⟩
theorem eqNet_any {lo2 : Nat} {ok2 : Nat → Prop} {B0 : Option Addr} {e0 : Nat} {B1 : Option Addr} {e1 : Nat} {B2 : Option Addr} {e2 : Nat} {B3 : Option Addr} {e3 : Nat} {B4 : Option Addr} {e4 : Nat} {B5 : Option Addr} {e5 : Nat} {p0 : List ByteArray} {p1 : List S92} {p2 : List Int} {p3 : List Int} {p4 : List S95} {p5 : List S97} {r : Bool} (h1 : NP lo ok A0 c0 A1 c1 A2 c2 A3 c3 A4 c4 A5 c5 q0 q1 q2 q3 q4 q5 V) (h2 : NP lo2 ok2 B0 e0 B1 e1 B2 e2 B3 e3 B4 e4 B5 e5 p0 p1 p2 p3 p4 p5 V) (h : laws_eqNet.f kf q0 q1 q2 q3 q4 q5 p0 p1 p2 p3 p4 p5 = some r) :
  Calls Tryd.prog 8 #[.agg #[.slice A0 q0.length c0, .slice A1 q1.length c1, .slice A2 q2.length c2, .slice A3 q3.length c3, .slice A4 q4.length c4, .slice A5 q5.length c5], .agg #[.slice B0 p0.length e0, .slice B1 p1.length e1, .slice B2 p2.length e2, .slice B3 p3.length e3, .slice B4 p4.length e4, .slice B5 p5.length e5]] V fun e w' => e = .returned (.bool r) ∧ Below V.heap.size V w' :=
 laws_eqNet.calls kf A0 c0 q0 A1 c1 q1 A2 c2 q2 A3 c3 q3 A4 c4 q4 A5 c5 q5 B0 e0 p0 B1 e1 p1 B2 e2 p2 B3 e3 p3 B4 e4 p4 B5 e5 p5 r V (Kd.R_reads' h1.1).2.2 (Kd.R_reads' h1.1).2.1 (Kd.R_reads' h1.2.1).2.2 (Kd.R_reads' h1.2.1).2.1 (Kd.R_reads' h1.2.2.1).2.2 (Kd.R_reads' h1.2.2.1).2.1 (Kd.R_reads' h1.2.2.2.1).2.2 (Kd.R_reads' h1.2.2.2.1).2.1 (Kd.R_reads' h1.2.2.2.2.1).2.2 (Kd.R_reads' h1.2.2.2.2.1).2.1 (Kd.R_reads' h1.2.2.2.2.2).2.2 (Kd.R_reads' h1.2.2.2.2.2).2.1 (Kd.R_reads' h2.1).2.2 (Kd.R_reads' h2.1).2.1 (Kd.R_reads' h2.2.1).2.2 (Kd.R_reads' h2.2.1).2.1 (Kd.R_reads' h2.2.2.1).2.2 (Kd.R_reads' h2.2.2.1).2.1 (Kd.R_reads' h2.2.2.2.1).2.2 (Kd.R_reads' h2.2.2.2.1).2.1 (Kd.R_reads' h2.2.2.2.2.1).2.2 (Kd.R_reads' h2.2.2.2.2.1).2.1 (Kd.R_reads' h2.2.2.2.2.2).2.2 (Kd.R_reads' h2.2.2.2.2.2).2.1 h
end
theorem wt_below {w W : World} (h : WT w) (hb : Below w.heap.size w W) : WT W := ⟨pw_cell_below hb h.1, pw_cell_below hb h.2.1, pw_cell_below hb h.2.2⟩
section
variable {V W : World} {lo : Nat} {ok ok' : Nat → Prop} {A0 : Option Addr} {c0 : Nat} {A1 : Option Addr} {c1 : Nat} {A2 : Option Addr} {c2 : Nat} {A3 : Option Addr} {c3 : Nat} {A4 : Option Addr} {c4 : Nat} {A5 : Option Addr} {c5 : Nat} {q0 : List ByteArray} {q1 : List S92} {q2 : List Int} {q3 : List Int} {q4 : List S95} {q5 : List S97} {kf : Nat}
theorem spec_NetText_any {s : Bool} {S : ByteArray} {I : Int} (h1 : NP lo ok A0 c0 A1 c1 A2 c2 A3 c3 A4 c4 A5 c5 q0 q1 q2 q3 q4 q5 V) (hN : s = true → NetFit q0 q1 q2 q3 q4 q5) (hS : sB (if s then netT q0 q1 q2 q3 q4 q5 else []) = S) (hI : (if s then 0 else 1) = I) (h : spec_NetOK.f kf q0 q1 q2 q3 q4 q5 = some s) :
    Calls Tryd.prog 5 #[.agg #[.slice A0 q0.length c0, .slice A1 q1.length c1, .slice A2 q2.length c2, .slice A3 q3.length c3, .slice A4 q4.length c4, .slice A5 q5.length c5]] V fun e w' => e = .returned (.tuple #[.string S, .int .i64 I]) ∧ Below V.heap.size V w' := by
  subst hS hI
  exact spec_NetText.calls kf A0 c0 q0 A1 c1 q1 A2 c2 q2 A3 c3 q3 A4 c4 q4 A5 c5 q5 s V hN (Kd.R_reads' h1.1).2.2 (Kd.R_reads' h1.1).2.1 (Kd.R_reads' h1.2.1).2.2 (Kd.R_reads' h1.2.1).2.1 (Kd.R_reads' h1.2.2.1).2.2 (Kd.R_reads' h1.2.2.1).2.1 (Kd.R_reads' h1.2.2.2.1).2.2 (Kd.R_reads' h1.2.2.2.1).2.1 (Kd.R_reads' h1.2.2.2.2.1).2.2 (Kd.R_reads' h1.2.2.2.2.1).2.1 (Kd.R_reads' h1.2.2.2.2.2).2.2 (Kd.R_reads' h1.2.2.2.2.2).2.1 h
theorem impl_NetText_any {s : Bool} {S : ByteArray} {I : Int} (h1 : NP lo ok A0 c0 A1 c1 A2 c2 A3 c3 A4 c4 A5 c5 q0 q1 q2 q3 q4 q5 V) (hN : s = true → NetFit q0 q1 q2 q3 q4 q5) (hT : Tab V) (hWT : WT V) (hS : sB (if s then netT q0 q1 q2 q3 q4 q5 else []) = S) (hI : (if s then 0 else 1) = I) (h : impl_isNet.f kf q0 q1 q2 q3 q4 q5 = some s) :
    Calls Tryd.prog 7 #[.agg #[.slice A0 q0.length c0, .slice A1 q1.length c1, .slice A2 q2.length c2, .slice A3 q3.length c3, .slice A4 q4.length c4, .slice A5 q5.length c5]] V fun e w' => e = .returned (.tuple #[.string S, .int .i64 I]) ∧ Below V.heap.size V w' := by
  subst hS hI
  exact impl_NetText.calls kf A0 c0 q0 A1 c1 q1 A2 c2 q2 A3 c3 q3 A4 c4 q4 A5 c5 q5 s V hT hWT hN (Kd.R_reads' h1.1).2.2 (Kd.R_reads' h1.1).2.1 (Kd.R_reads' h1.2.1).2.2 (Kd.R_reads' h1.2.1).2.1 (Kd.R_reads' h1.2.2.1).2.2 (Kd.R_reads' h1.2.2.1).2.1 (Kd.R_reads' h1.2.2.2.1).2.2 (Kd.R_reads' h1.2.2.2.1).2.1 (Kd.R_reads' h1.2.2.2.2.1).2.2 (Kd.R_reads' h1.2.2.2.2.1).2.1 (Kd.R_reads' h1.2.2.2.2.2).2.2 (Kd.R_reads' h1.2.2.2.2.2).2.1 h
end
def lawT_T : Bool × List (List Nat × List Nat) := (true, [([], []), ([], []), ([1], [1]), ([0, 2, 2], [0, 2]), ([3], [3])])
def lawT_B : List Nat := [0, 0, 2, 7, 15]
theorem lawT_tab : rtab .any (opsOf Tryd.f3 10) = lawT_T := by kernel_rfl
theorem lawT_bits : waitsOk lawT_T.2 lawT_B = true := by kernel_rfl
def laws_FnExactNetText.f (kf : Nat) (l0_0 : List ByteArray) (l0_1 : List S107) (l0_2 : List Int) (l0_3 : List Int) (l0_4 : List S109) (l0_5 : List S111)  : Option Bool :=
  (laws_szNet.f kf l0_0 l0_1 l0_2 l0_3 l0_4 l0_5 1048576).bind fun t => if t < 0 then some true else
  (laws_toNet.f kf l0_0 l0_1 l0_2 l0_3 l0_4 l0_5).bind fun q => (spec_NetOK.f kf q.1 q.2.1 q.2.2.1 q.2.2.2.1 q.2.2.2.2.1 q.2.2.2.2.2 ).bind fun s => (impl_isNet.f kf q.1 q.2.1 q.2.2.1 q.2.2.2.1 q.2.2.2.2.1 q.2.2.2.2.2 ).bind fun g => (laws_eqNet.f kf q.1 q.2.1 q.2.2.1 q.2.2.2.1 q.2.2.2.2.1 q.2.2.2.2.2 q.1 q.2.1 q.2.2.1 q.2.2.2.1 q.2.2.2.2.1 q.2.2.2.2.2).bind fun b2 =>
  if g = s ∧ b2 = true then some true else none
set_option maxHeartbeats 8000000 in
set_option maxRecDepth 100000 in
theorem laws_FnExactNetText.calls (kf : Nat) (A0_0 : Option Addr) (c0_0 : Nat) (l0_0 : List ByteArray) (A0_1 : Option Addr) (c0_1 : Nat) (l0_1 : List S107) (A0_2 : Option Addr) (c0_2 : Nat) (l0_2 : List Int) (A0_3 : Option Addr) (c0_3 : Nat) (l0_3 : List Int) (A0_4 : Option Addr) (c0_4 : Nat) (l0_4 : List S109) (A0_5 : Option Addr) (c0_5 : Nat) (l0_5 : List S111)  (r : Bool) (w : World) (hT : Tab w) (hWT : WT w) (hF : ∀ q0 q1 q2 q3 q4 q5, laws_toNet.f kf l0_0 l0_1 l0_2 l0_3 l0_4 l0_5 = some (q0, q1, q2, q3, q4, q5) → spec_NetOK.f kf q0 q1 q2 q3 q4 q5 = some true → NetFit q0 q1 q2 q3 q4 q5) (hr0_0 : Kd.C Kd.string w A0_0 l0_0.length l0_0) (hc0_0 : l0_0.length ≤ c0_0) (hr0_1 : Kd.C k107 w A0_1 l0_1.length l0_1) (hc0_1 : l0_1.length ≤ c0_1) (hr0_2 : Kd.C (Kd.int .i64) w A0_2 l0_2.length l0_2) (hc0_2 : l0_2.length ≤ c0_2) (hr0_3 : Kd.C (Kd.int .i64) w A0_3 l0_3.length l0_3) (hc0_3 : l0_3.length ≤ c0_3) (hr0_4 : Kd.C k109 w A0_4 l0_4.length l0_4) (hc0_4 : l0_4.length ≤ c0_4) (hr0_5 : Kd.C k111 w A0_5 l0_5.length l0_5) (hc0_5 : l0_5.length ≤ c0_5)  (h : laws_FnExactNetText.f kf l0_0 l0_1 l0_2 l0_3 l0_4 l0_5  = some r) :
    Calls Tryd.prog 3 #[.agg #[.slice A0_0 l0_0.length c0_0, .slice A0_1 l0_1.length c0_1, .slice A0_2 l0_2.length c0_2, .slice A0_3 l0_3.length c0_3, .slice A0_4 l0_4.length c0_4, .slice A0_5 l0_5.length c0_5]] w fun e w' => e = .returned (.bool r) ∧ Below w.heap.size w w' := by
  have hu28 := Tryd.underlying28
  have hu38 := Tryd.underlying36
  unfold laws_FnExactNetText.f at h
  have hb1 : Below w.heap.size w (w.alloc (.cells #[.slice A0_0 l0_0.length c0_0, .slice A0_1 l0_1.length c0_1, .slice A0_2 l0_2.length c0_2, .slice A0_3 l0_3.length c0_3, .slice A0_4 l0_4.length c0_4, .slice A0_5 l0_5.length c0_5] 28)) := (Below.refl _ _).alloc (Nat.le_refl _) _
  have hW : (w.alloc (.cells #[.slice A0_0 l0_0.length c0_0, .slice A0_1 l0_1.length c0_1, .slice A0_2 l0_2.length c0_2, .slice A0_3 l0_3.length c0_3, .slice A0_4 l0_4.length c0_4, .slice A0_5 l0_5.length c0_5] 28)).heap[w.heap.size]? = some (.cells #[.slice A0_0 l0_0.length c0_0, .slice A0_1 l0_1.length c0_1, .slice A0_2 l0_2.length c0_2, .slice A0_3 l0_3.length c0_3, .slice A0_4 l0_4.length c0_4, .slice A0_5 l0_5.length c0_5] 28 (0, 0)) := by
    show (w.heap.push _)[w.heap.size]? = _
    simp
  obtain ⟨W1, hW1, BX, HB1⟩ : ∃ W1, w.alloc (.cells #[.slice A0_0 l0_0.length c0_0, .slice A0_1 l0_1.length c0_1, .slice A0_2 l0_2.length c0_2, .slice A0_3 l0_3.length c0_3, .slice A0_4 l0_4.length c0_4, .slice A0_5 l0_5.length c0_5] 28) = W1 ∧ W1.heap[w.heap.size]? = some (.cells #[.slice A0_0 l0_0.length c0_0, .slice A0_1 l0_1.length c0_1, .slice A0_2 l0_2.length c0_2, .slice A0_3 l0_3.length c0_3, .slice A0_4 l0_4.length c0_4, .slice A0_5 l0_5.length c0_5] 28 (0, 0)) ∧ Below w.heap.size w W1 := ⟨_, rfl, hW, hb1⟩
  have FA := Aside0.mk (foot_and (foot_blk (ok := fun k_ => k_ < W1.heap.size) BX (blk_lt BX)) (foot_and (foot_C Kd.heap_string (Kd.C_below hr0_0 HB1)) (foot_and (foot_C heap107 (Kd.C_below hr0_1 HB1)) (foot_and (foot_C (Kd.heap_int .i64) (Kd.C_below hr0_2 HB1)) (foot_and (foot_C (Kd.heap_int .i64) (Kd.C_below hr0_3 HB1)) (foot_and (foot_C heap109 (Kd.C_below hr0_4 HB1)) (foot_C heap111 (Kd.C_below hr0_5 HB1))))))))
  have HB := Aside0.mk HB1
  have HW1 := Aside0.mk hW1
  clear hb1 hW hW1 BX HB1 hr0_0 hr0_1 hr0_2 hr0_3 hr0_4 hr0_5 
  replace h := Option.bind_eq_some_iff.1 h
  obtain ⟨t, hsz, h⟩ := h
  by_cases h_t : t < 0
  · rw [if_pos h_t] at h
    obtain rfl := Option.some.inj h
    clear h
    go_enter Tryd.func3, Tryd.ntmps3
    go_upto_region 2 with fail
    rw [HW1.out]
    clear HW1
    obtain ⟨hx0, hx1, hx2, hx3, hx4, hx5⟩ := box6 FA.out.now.1
    go_wp2_with (first | (go_at_call 4; (with_reducible refine (laws_szNet.calls kf A0_0 c0_0 l0_0 A0_1 c0_1 l0_1 A0_2 c0_2 l0_2 A0_3 c0_3 l0_3 A0_4 c0_4 l0_4 A0_5 c0_5 l0_5 1048576 t W1 FA.out.now.2.1 hc0_0 FA.out.now.2.2.1 hc0_1 FA.out.now.2.2.2.1 hc0_2 FA.out.now.2.2.2.2.1 hc0_3 FA.out.now.2.2.2.2.2.1 hc0_4 FA.out.now.2.2.2.2.2.2 hc0_5 hsz).mono ?_); rintro e w2 ⟨rfl, hb⟩; clear hx0 hx1 hx2 hx3 hx4 hx5; have mFA_ := Aside0.mk (foot_below FA.out hb); have mB_ := Aside0.mk (HB.out.trans (hb.mono HB.out.size)); clear FA HB; have FA := mFA_; have HB := mB_; clear mB_ mFA_; obtain ⟨hx0, hx1, hx2, hx3, hx4, hx5⟩ := box6 FA.out.now.1; clear hb))
    go_ret
    exact ⟨rfl, HB.out⟩
  rw [if_neg h_t] at h
  replace h := Option.bind_eq_some_iff.1 h
  obtain ⟨⟨q0, q1, q2, q3, q4, q5⟩, hto, h⟩ := h
  replace h := Option.bind_eq_some_iff.1 h
  obtain ⟨s, hsp, h⟩ := h
  replace h := Option.bind_eq_some_iff.1 h
  obtain ⟨g, him, h⟩ := h
  replace h := Option.bind_eq_some_iff.1 h
  obtain ⟨b2, hen, h⟩ := h
  simp only at hsp him hen h
  by_cases hc : g = s ∧ b2 = true
  rotate_left
  · rw [if_neg hc] at h
    cases h
  rw [if_pos hc] at h
  obtain ⟨hgs, rfl⟩ := hc
  rw [hgs] at him
  obtain rfl := Option.some.inj h
  clear h hgs
  have hfit : s = true → NetFit q0 q1 q2 q3 q4 q5 := fun e => hF _ _ _ _ _ _ hto (by rw [hsp, e])
  have HF := Aside0.mk hfit
  have HT := Aside0.mk hT
  have HWT := Aside0.mk hWT
  clear hfit hF hT hWT
  obtain ⟨S, hS⟩ : ∃ S, sB (if s then netT q0 q1 q2 q3 q4 q5 else []) = S := ⟨_, rfl⟩
  obtain ⟨I, hI⟩ : ∃ I : Int, (if s then 0 else 1) = I := ⟨_, rfl⟩
  have HS := Aside0.mk hS
  have HI := Aside0.mk hI
  clear hS hI
  have hne2 : (I != I) = false := by simp
  go_enter Tryd.func3, Tryd.ntmps3
  go_upto_region 2 with fail
  rw [HW1.out]
  clear HW1
  obtain ⟨hx0, hx1, hx2, hx3, hx4, hx5⟩ := box6 FA.out.now.1
  go_upto_region 5 with (first | (go_at_call 4; (with_reducible refine (laws_szNet.calls kf A0_0 c0_0 l0_0 A0_1 c0_1 l0_1 A0_2 c0_2 l0_2 A0_3 c0_3 l0_3 A0_4 c0_4 l0_4 A0_5 c0_5 l0_5 1048576 t W1 FA.out.now.2.1 hc0_0 FA.out.now.2.2.1 hc0_1 FA.out.now.2.2.2.1 hc0_2 FA.out.now.2.2.2.2.1 hc0_3 FA.out.now.2.2.2.2.2.1 hc0_4 FA.out.now.2.2.2.2.2.2 hc0_5 hsz).mono ?_); rintro e w2 ⟨rfl, hb⟩; clear hx0 hx1 hx2 hx3 hx4 hx5; have mFA_ := Aside0.mk (foot_below FA.out hb); have mB_ := Aside0.mk (HB.out.trans (hb.mono HB.out.size)); clear FA HB; have FA := mFA_; have HB := mB_; clear mB_ mFA_; obtain ⟨hx0, hx1, hx2, hx3, hx4, hx5⟩ := box6 FA.out.now.1; clear hb))
  go_upto_region 6 with (first
    | (go_at_call 6; (with_reducible refine (toNet_any (kf := kf) w.heap.size HB.out.size A0_0 c0_0 l0_0 A0_1 c0_1 l0_1 A0_2 c0_2 l0_2 A0_3 c0_3 l0_3 A0_4 c0_4 l0_4 A0_5 c0_5 l0_5 q0 q1 q2 q3 q4 q5 FA.out.now.2.1 hc0_0 FA.out.now.2.2.1 hc0_1 FA.out.now.2.2.2.1 hc0_2 FA.out.now.2.2.2.2.1 hc0_3 FA.out.now.2.2.2.2.2.1 hc0_4 FA.out.now.2.2.2.2.2.2 hc0_5 hto).mono ?_); rintro e w3a ⟨A3_0, c3_0, A3_1, c3_1, A3_2, c3_2, A3_3, c3_3, A3_4, c3_4, A3_5, c3_5, rfl, hN_, -, hb⟩; clear hx0 hx1 hx2 hx3 hx4 hx5; have mFA_ := Aside0.mk (foot_below FA.out hb); have mB_ := Aside0.mk (HB.out.trans (hb.mono HB.out.size)); clear FA HB; have FA := mFA_; have HB := mB_; clear mB_ mFA_; obtain ⟨hx0, hx1, hx2, hx3, hx4, hx5⟩ := box6 FA.out.now.1; clear hb; have HN3 := Aside0.mk (NP.foot hN_); clear hN_)
    | (go_at_call 5; (with_reducible refine (spec_NetText_any (kf := kf) HN3.out.now HF.out HS.out HI.out hsp).mono ?_); rintro e w4 ⟨rfl, hb⟩; clear HN3 ; clear hx0 hx1 hx2 hx3 hx4 hx5; have mFA_ := Aside0.mk (foot_below FA.out hb); have mB_ := Aside0.mk (HB.out.trans (hb.mono HB.out.size)); clear FA HB; have FA := mFA_; have HB := mB_; clear mB_ mFA_; obtain ⟨hx0, hx1, hx2, hx3, hx4, hx5⟩ := box6 FA.out.now.1; clear hb))
  go_upto_region 7 with (go_at_call 6; (with_reducible refine (toNet_any (kf := kf) w.heap.size HB.out.size A0_0 c0_0 l0_0 A0_1 c0_1 l0_1 A0_2 c0_2 l0_2 A0_3 c0_3 l0_3 A0_4 c0_4 l0_4 A0_5 c0_5 l0_5 q0 q1 q2 q3 q4 q5 FA.out.now.2.1 hc0_0 FA.out.now.2.2.1 hc0_1 FA.out.now.2.2.2.1 hc0_2 FA.out.now.2.2.2.2.1 hc0_3 FA.out.now.2.2.2.2.2.1 hc0_4 FA.out.now.2.2.2.2.2.2 hc0_5 hto).mono ?_); rintro e w5 ⟨A5_0, c5_0, A5_1, c5_1, A5_2, c5_2, A5_3, c5_3, A5_4, c5_4, A5_5, c5_5, rfl, hN_, hap, hb⟩; have HS5 := Aside0.mk (NP.foot hN_); clear hN_ hap; clear hx0 hx1 hx2 hx3 hx4 hx5; have mFA_ := Aside0.mk (foot_below FA.out hb); have mB_ := Aside0.mk (HB.out.trans (hb.mono HB.out.size)); clear FA HB; have FA := mFA_; have HB := mB_; clear mB_ mFA_; obtain ⟨hx0, hx1, hx2, hx3, hx4, hx5⟩ := box6 FA.out.now.1; clear hb)
  have hb6 := (below_alloc (Below.refl w5.heap.size w5) (.cells #[.slice A5_0 q0.length c5_0, .slice A5_1 q1.length c5_1, .slice A5_2 q2.length c5_2, .slice A5_3 q3.length c5_3, .slice A5_4 q4.length c5_4, .slice A5_5 q5.length c5_5] 36))
  have hg6 := blk_new w5 (.cells #[.slice A5_0 q0.length c5_0, .slice A5_1 q1.length c5_1, .slice A5_2 q2.length c5_2, .slice A5_3 q3.length c5_3, .slice A5_4 q4.length c5_4, .slice A5_5 q5.length c5_5] 36)
  generalize w5.alloc (.cells #[.slice A5_0 q0.length c5_0, .slice A5_1 q1.length c5_1, .slice A5_2 q2.length c5_2, .slice A5_3 q3.length c5_3, .slice A5_4 q4.length c5_4, .slice A5_5 q5.length c5_5] 36) = w6 at hb6 hg6 ⊢
  have HG6 := Aside0.mk (foot_blk (ok := fun k_ => k_ < w6.heap.size) hg6 (blk_lt hg6))
  obtain ⟨hgx0, hgx1, hgx2, hgx3, hgx4, hgx5⟩ := box6 hg6
  clear hx0 hx1 hx2 hx3 hx4 hx5
  have mFA_ := Aside0.mk (foot_below FA.out hb6)
  have mHS5_ := Aside0.mk (foot_below HS5.out hb6)
  have mB_ := Aside0.mk (HB.out.trans (hb6.mono HB.out.size))
  clear FA HS5 HB
  have FA := mFA_
  have HS5 := mHS5_
  have HB := mB_
  clear mB_ mFA_ mHS5_
  obtain ⟨hx0, hx1, hx2, hx3, hx4, hx5⟩ := box6 FA.out.now.1
  clear hb6 hg6
  go_upto_region 8 with (go_at_call 7; (with_reducible refine (impl_NetText_any (kf := kf) HS5.out.now HF.out (tab_below HT.out HB.out) (wt_below HWT.out HB.out) HS.out HI.out him).mono ?_); rintro e w8 ⟨rfl, hb⟩; clear hx0 hx1 hx2 hx3 hx4 hx5; clear hgx0 hgx1 hgx2 hgx3 hgx4 hgx5; have mFA_ := Aside0.mk (foot_below FA.out hb); have mHS5_ := Aside0.mk (foot_below HS5.out hb); have mHG6_ := Aside0.mk (foot_below HG6.out hb); have mB_ := Aside0.mk (HB.out.trans (hb.mono HB.out.size)); clear FA HS5 HG6 HB; have FA := mFA_; have HS5 := mHS5_; have HG6 := mHG6_; have HB := mB_; clear mB_ mFA_ mHS5_ mHG6_; obtain ⟨hx0, hx1, hx2, hx3, hx4, hx5⟩ := box6 FA.out.now.1; obtain ⟨hgx0, hgx1, hgx2, hgx3, hgx4, hgx5⟩ := box6 HG6.out.now; clear hb)
  go_upto_region 10 with fail
  have hbd := below_drew (Below.refl w8.heap.size w8)
  clear hx0 hx1 hx2 hx3 hx4 hx5
  clear hgx0 hgx1 hgx2 hgx3 hgx4 hgx5
  have mFA_ := Aside0.mk (foot_below FA.out hbd)
  have mHS5_ := Aside0.mk (foot_below HS5.out hbd)
  have mHG6_ := Aside0.mk (foot_below HG6.out hbd)
  have mB_ := Aside0.mk (HB.out.trans (hbd.mono HB.out.size))
  clear FA HS5 HG6 HB
  have FA := mFA_
  have HS5 := mHS5_
  have HG6 := mHG6_
  have HB := mB_
  clear mB_ mFA_ mHS5_ mHG6_
  obtain ⟨hx0, hx1, hx2, hx3, hx4, hx5⟩ := box6 FA.out.now.1
  obtain ⟨hgx0, hgx1, hgx2, hgx3, hgx4, hgx5⟩ := box6 HG6.out.now
  clear hbd
  generalize hw9 : w8.drew = w10 at *
  refine start_ (n := 5) (S := fun w' => w'.cell? ⟨w.heap.size, 0, none⟩ = some (.slice A0_0 l0_0.length c0_0) ∧ w'.cell? ⟨w.heap.size, 1, none⟩ = some (.slice A0_1 l0_1.length c0_1) ∧ w'.cell? ⟨w.heap.size, 2, none⟩ = some (.slice A0_2 l0_2.length c0_2) ∧ w'.cell? ⟨w.heap.size, 3, none⟩ = some (.slice A0_3 l0_3.length c0_3) ∧ w'.cell? ⟨w.heap.size, 4, none⟩ = some (.slice A0_4 l0_4.length c0_4) ∧ w'.cell? ⟨w.heap.size, 5, none⟩ = some (.slice A0_5 l0_5.length c0_5) ∧ w'.cell? ⟨w5.heap.size, 0, none⟩ = some (.slice A5_0 q0.length c5_0) ∧ w'.cell? ⟨w5.heap.size, 1, none⟩ = some (.slice A5_1 q1.length c5_1) ∧ w'.cell? ⟨w5.heap.size, 2, none⟩ = some (.slice A5_2 q2.length c5_2) ∧ w'.cell? ⟨w5.heap.size, 3, none⟩ = some (.slice A5_3 q3.length c5_3) ∧ w'.cell? ⟨w5.heap.size, 4, none⟩ = some (.slice A5_4 q4.length c5_4) ∧ w'.cell? ⟨w5.heap.size, 5, none⟩ = some (.slice A5_5 q5.length c5_5)) (ds := []) #[false, false, false, false, false] (by kernel_rfl) rfl rfl (by rw [hw9]; exact ⟨hx0, hx1, hx2, hx3, hx4, hx5, hgx0, hgx1, hgx2, hgx3, hgx4, hgx5⟩) (fun hHeld => ?_)
  refine with_tabW lawT_tab lawT_bits (fun HT_ HW_ => ?_)
  rw [hw9] at hHeld ⊢
  clear hw9
  refine take_ (i := 0) (N := some 35) (v := ?_) (a' := ?_) #[true, false, false, false, false] rfl rfl (take_ofW HT_.out HW_.out (by kernel_rfl)) (fun _ _ _ h => h) (Or.inl ⟨by rfl, ?_⟩) hHeld ?_ ?_
  rotate_left
  · rintro w' ⟨s0, s1, s2, s3, s4, s5, s6, s7, s8, s9, s10, s11⟩
    go_simp
    with_reducible rfl
  rotate_left
  · simp only [Act.put, List.setIfInBounds_toArray, List.set_cons_zero, List.set_cons_succ, i64_w, i32_w]
    rfl
  refine take_ (i := 1) (N := some 36) (v := ?_) (a' := ?_) #[true, true, false, false, false] rfl rfl (take_ofW HT_.out HW_.out (by kernel_rfl)) (fun _ _ _ h => h) (Or.inl ⟨by rfl, ?_⟩) hHeld ?_ ?_
  rotate_left
  · rintro w' ⟨s0, s1, s2, s3, s4, s5, s6, s7, s8, s9, s10, s11⟩
    go_simp
    with_reducible rfl
  rotate_left
  · simp only [Act.put, List.setIfInBounds_toArray, List.set_cons_zero, List.set_cons_succ, i64_w, i32_w]
    rfl
  refine one_ (i := 2) (N := some 37) #[true, true, true, false, false] rfl rfl (one_of HT_.out (by kernel_rfl)) (by decide) (fun K hK => ?_)
  refine call_ 6 #[.agg #[.slice A0_0 l0_0.length c0_0, .slice A0_1 l0_1.length c0_1, .slice A0_2 l0_2.length c0_2, .slice A0_3 l0_3.length c0_3, .slice A0_4 l0_4.length c0_4, .slice A0_5 l0_5.length c0_5]] (by rfl) rfl ?hrun2 ?h2
  case hrun2 =>
    have he := enters_of Tryd.func6 (by kernel_rfl) rfl
    unfold execOp
    simp [resolve, Deferred.ofValue, invoke, Act.eval, he]
  refine (toNet_any (kf := kf) w.heap.size HB.out.size A0_0 c0_0 l0_0 A0_1 c0_1 l0_1 A0_2 c0_2 l0_2 A0_3 c0_3 l0_3 A0_4 c0_4 l0_4 A0_5 c0_5 l0_5 q0 q1 q2 q3 q4 q5 FA.out.now.2.1 hc0_0 FA.out.now.2.2.1 hc0_1 FA.out.now.2.2.2.1 hc0_2 FA.out.now.2.2.2.2.1 hc0_3 FA.out.now.2.2.2.2.2.1 hc0_4 FA.out.now.2.2.2.2.2.2 hc0_5 hto).mono ?_
  rintro e w11 ⟨A10_0, c10_0, A10_1, c10_1, A10_2, c10_2, A10_3, c10_3, A10_4, c10_4, A10_5, c10_5, rfl, hN_, -, hb⟩
  refine ⟨_, rfl, ?_⟩
  clear hx0 hx1 hx2 hx3 hx4 hx5
  clear hgx0 hgx1 hgx2 hgx3 hgx4 hgx5
  have mFA_ := Aside0.mk (foot_below FA.out hb)
  have mHS5_ := Aside0.mk (foot_below HS5.out hb)
  have mHG6_ := Aside0.mk (foot_below HG6.out hb)
  have mB_ := Aside0.mk (HB.out.trans (hb.mono HB.out.size))
  clear FA HS5 HG6 HB
  have FA := mFA_
  have HS5 := mHS5_
  have HG6 := mHG6_
  have HB := mB_
  clear mB_ mFA_ mHS5_ mHG6_
  obtain ⟨hx0, hx1, hx2, hx3, hx4, hx5⟩ := box6 FA.out.now.1
  obtain ⟨hgx0, hgx1, hgx2, hgx3, hgx4, hgx5⟩ := box6 HG6.out.now
  clear hb
  have HN10 := Aside0.mk hN_
  clear hN_
  refine hK.out _ _ ⟨hx0, hx1, hx2, hx3, hx4, hx5, hgx0, hgx1, hgx2, hgx3, hgx4, hgx5⟩ (fun hHeld => ?_)
  clear hK K
  refine norm_ (a' := ?_) ?_ ?_
  rotate_left
  · show Act.put _ (some 37) _ = _
    simp only [Act.put, List.setIfInBounds_toArray, List.set_cons_zero, List.set_cons_succ, i64_w, i32_w]
    rfl
  refine one_ (i := 3) (N := some 38) #[true, true, true, true, false] rfl rfl (one_of HT_.out (by kernel_rfl)) (by decide) (fun K hK => ?_)
  refine call_ 8 #[.agg #[.slice A5_0 q0.length c5_0, .slice A5_1 q1.length c5_1, .slice A5_2 q2.length c5_2, .slice A5_3 q3.length c5_3, .slice A5_4 q4.length c5_4, .slice A5_5 q5.length c5_5], .agg #[.slice A10_0 q0.length c10_0, .slice A10_1 q1.length c10_1, .slice A10_2 q2.length c10_2, .slice A10_3 q3.length c10_3, .slice A10_4 q4.length c10_4, .slice A10_5 q5.length c10_5]] (by rfl) rfl ?hrun3 ?h3
  case hrun3 =>
    have he := enters_of Tryd.func8 (by kernel_rfl) rfl
    unfold execOp
    simp [resolve, Deferred.ofValue, invoke, Act.eval, he]
  refine (eqNet_any (kf := kf) HS5.out.now HN10.out hen).mono ?_
  rintro e w12 ⟨rfl, hb⟩
  refine ⟨_, rfl, ?_⟩
  clear HN10
  clear hx0 hx1 hx2 hx3 hx4 hx5
  clear hgx0 hgx1 hgx2 hgx3 hgx4 hgx5
  have mFA_ := Aside0.mk (foot_below FA.out hb)
  have mHS5_ := Aside0.mk (foot_below HS5.out hb)
  have mHG6_ := Aside0.mk (foot_below HG6.out hb)
  have mB_ := Aside0.mk (HB.out.trans (hb.mono HB.out.size))
  clear FA HS5 HG6 HB
  have FA := mFA_
  have HS5 := mHS5_
  have HG6 := mHG6_
  have HB := mB_
  clear mB_ mFA_ mHS5_ mHG6_
  obtain ⟨hx0, hx1, hx2, hx3, hx4, hx5⟩ := box6 FA.out.now.1
  obtain ⟨hgx0, hgx1, hgx2, hgx3, hgx4, hgx5⟩ := box6 HG6.out.now
  clear hb
  refine hK.out _ _ ⟨hx0, hx1, hx2, hx3, hx4, hx5, hgx0, hgx1, hgx2, hgx3, hgx4, hgx5⟩ (fun hHeld => ?_)
  clear hK K
  refine norm_ (a' := ?_) ?_ ?_
  rotate_left
  · show Act.put _ (some 38) _ = _
    simp only [Act.put, List.setIfInBounds_toArray, List.set_cons_zero, List.set_cons_succ, i64_w, i32_w]
    rfl
  refine pure_ (i := 4) (N := some 39) (v := ?_) (a' := ?_) #[true, true, true, true, true] rfl rfl (any_of HT_.out (by kernel_rfl)) (fun _ _ _ h => h) (Or.inl ⟨by rfl, ?_⟩) ?_ ?_
  rotate_left
  · intro w'
    go_simp
    with_reducible rfl
  rotate_left
  · simp only [Act.put, List.setIfInBounds_toArray, List.set_cons_zero, List.set_cons_succ, i64_w, i32_w]
    rfl
  refine done_ (done_of HT_.out (by kernel_rfl)) ?_
  clear hHeld HT_ HW_
  go_wp2
  go_ret
  exact ⟨rfl, HB.out⟩
end Go.Proofs.YtgibacfgjmdjdaaDoor.PFnExactIsStable
