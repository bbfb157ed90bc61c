/- FnExactSettle: for every input the law returns true. The texts that this program's session printed and proved for it, those that the proof uses, laid together. Conditions: the form's own reach alone. -/
import Derived.Test.YtgibacfgjmdjdaaGreatQFnExactSettle5
import Derived.Laws.CopyRow
import Derived.Laws.CopyOwn
section
namespace Go.Proofs.YtgibacfgjmdjdaaGreat.PFnExactIsStable
open Go.RowKit Go.Proofs.YtgibacfgjmdjdaaGreatW.PrintWords Go.Proofs.YtgibacfgjmdjdaaGreatW.PrintLast Go.Proofs.YtgibacfgjmdjdaaGreatW.PrintMore
attribute [local go_sem] max2_int min2_int max_two min_two max_three min_three max_four min_four   -- for this text's walks alone
set_option linter.unusedVariables false
set_option linter.unusedSimpArgs false
set_option maxHeartbeats 8000000
set_option maxRecDepth 100000
end Go.Proofs.YtgibacfgjmdjdaaGreat.PFnExactIsStable
namespace Go.Proofs.YtgibacfgjmdjdaaGreatW.PrintWords
open Go.RowKit
section
variable {α β : Type} {d : Kd α} {d' : Kd β} {e e' : Nat} {w w1 W W1 W2 : World} {S : Nat → Prop} {base base' : Nat} {ys : List β} {ok ok1 ok' : Nat → Prop} {v u : Value} {xs : List α}
def nums (k : IntKind) (xs : List Int) : List Value := xs.map fun x => .int k x
theorem own_string {P : Program} {w : World} {base n : Nat} {e' src dst e : TypeId} {v : Value} {xs : List Int} (hs : P.underlying src = some (.slice e)) (he : P.underlying e = some (.int .u8)) (hd : P.underlying dst = some .string)
  (h : w.ownsRow base e' 1 v n (nums .u8 xs)) : (convert src dst v).run P w = .ok (.string (strOfNums xs)) w := by
 have hl : xs.length = n := by have := h.1; simp [nums] at this; exact this
 rcases h.2 with ⟨rfl, rfl⟩ | ⟨g, cap, cur, rfl, _⟩
 ·obtain rfl : xs = [] := List.eq_nil_of_length_eq_zero hl
  exact run_convert_bytes_nil w src e hs he 0 0 dst hd
 ·refine run_convert_bytes_arg w src e hs he g 0 n cap xs hl (fun i hi => ?_) dst hd
  have hc := h.cells (g := g) rfl i (.int .u8 (xs.getD i 0)) (by simp [nums, List.getElem?_eq_getElem (show i < xs.length by omega), List.getD_eq_getElem?_getD])
  have ha : (⟨g, 0, none⟩ : Addr).add i = ⟨g, 0 + i, none⟩ := by unfold Addr.add; split <;> simp_all
  rwa [ha] at hc
namespace Kd
theorem R_apart' (h : d.R e W base ok u xs) (hty : ∀ k, v.ownBlock = some k → ∃ cells, W.heap[k]? = some (.cells cells e' (0, 0))) (ht : ∀ q, q ∈ e :: d.E → q ≠ e') : d.R e W base (fun k => ok k ∧ some k ≠ v.ownBlock) u xs := by
 refine R_mono (R_bound h) (fun k hk => ⟨hk.1, fun he => ?_⟩)
 obtain ⟨_, _, _, q, hq, cells, hc⟩ := hk
 obtain ⟨cells', hc'⟩ := hty k he.symm
 rw [hc] at hc'
 injection hc' with hc'
 injection hc' with _ hc'
 exact ht q hq hc'
end Kd
namespace Kd
theorem R_tight (hE : d.E = []) (h : d.R e w base ok v xs) : d.R e w base (fun k => some k = v.ownBlock) v xs := by
 obtain ⟨h0, inner, ho, hr⟩ := h
 refine ⟨fun k hk => hk.symm, inner, ho, hr.imp_ (fun p c hp => d.M_mono (fun k hk => ?_) (d.M_bound hp))⟩
 obtain ⟨_, _, _, q, hq, _⟩ := hk
 rw [hE] at hq
 cases hq
end Kd
theorem Kept.mono {S' : Nat → Prop} (h : Kept w W S) (hs : ∀ k, S k → S' k) : Kept w W S' := ⟨h.1, fun i hi hn => h.2 i hi (fun hk => hn (hs i hk))⟩
theorem Kept.of_below (h : Below w.heap.size w W) (S : Nat → Prop) : Kept w W S := ⟨h.size, fun i hi _ => h.block i hi⟩
theorem Kept.of_grown {row : Option Nat} (hg : W.grownBy W2 row) (h : Kept w W S) (hr : ∀ k, row = some k → S k ∨ w.heap.size ≤ k) : Kept w W2 S :=
 h.then_ (S2 := fun k => row = some k) ⟨hg.size, fun i hi hn => hg.block i hi (fun he => hn he.symm)⟩ hr
theorem Kept.below (h : Kept w W S) (hb : Below W.heap.size W W2) : Kept w W2 S := h.then_ (Kept.of_below hb (fun _ => False)) (fun _ hk => hk.elim)
namespace Kd
theorem R_kept (h : d.R e W base ok v xs) (hk : Kept W W2 S) (hne : ∀ k, ok k → ¬ S k) : d.R e W2 base ok v xs := R_step h (fun k ho hlt => hk.2 k hlt (hne k ho))
end Kd
namespace Kd
theorem R_reok (hE : d.E = []) (h : d.R e W base ok1 v xs) (hok : ∀ k, v.ownBlock = some k → ok k) : d.R e W base ok v xs := R_mono (R_tight hE h) (fun k hk => hok k hk.symm)
end Kd
namespace Kd
theorem R_keptB (h : d.R e W base ok v xs) (hk : Kept W W2 S) (hne : ∀ k, ok k → ¬ S k) : d.R e W2 base (fun k => ok k ∧ (¬ S k ∧ k < W.heap.size)) v xs :=
 R_kept (R_mono (R_bound h) (fun k hk => ⟨hk.1, hne k hk.1, hk.2.2.1⟩)) hk (fun _ hk => hk.2.1)
end Kd
end
end Go.Proofs.YtgibacfgjmdjdaaGreatW.PrintWords
namespace Go.Proofs.YtgibacfgjmdjdaaGreat.PFnExactIsStable
open Go.RowKit Go.Proofs.YtgibacfgjmdjdaaGreatW.PrintWords Go.Proofs.YtgibacfgjmdjdaaGreatW.PrintLast Go.Proofs.YtgibacfgjmdjdaaGreatW.PrintMore
attribute [local go_sem] max2_int min2_int max_two min_two max_three min_three max_four min_four   -- for this text's walks alone
set_option linter.unusedVariables false
set_option linter.unusedSimpArgs false
set_option maxHeartbeats 8000000
set_option maxRecDepth 100000
def laws_markIntS.l0 : Nat → List Int → Int → Int → Option (Int × List Int)
 | 0, _, _, _ => none
 | k + 1, x0, x1, x5 => if x5 < (x0.length : Int) then (if 0 ≤ x5 then (laws_markIntS.l0 k (x0.set (x5 : Int).toNat x1) (wrap64 (x1 + 1)) (wrap64 (x5 + 1))) else (none)) else (some (x1, x0))
def laws_markIntS.f (k : Nat) (l0 : List Int) (a1 : Int) : Option (Int × List Int) := laws_markIntS.l0 k l0 a1 0
theorem laws_markIntS.calls (k : Nat) (P0_ : Nat → Prop) (u9000_ : Value) (l0 : List Int) (a1 : Int) (r1 : Int) (r2 : List Int) (w0 w : World) (hB : Below w0.heap.size w0 w) (ho0 : Kd.R (Kd.int .i64) 3 w w0.heap.size P0_ u9000_ l0) (h : laws_markIntS.f k l0 a1 = some (r1, r2)) :
  Calls Tryz.prog 15 #[u9000_, .int .i64 a1] w fun e w' => e = .returned (.int .i64 r1) ∧ Kd.R (Kd.int .i64) 3 w' w0.heap.size (fun k_ => (P0_ k_ ∨ w.heap.size ≤ k_)) u9000_ r2 ∧ Below w0.heap.size w0 w' ∧ Kept w w' (fun k_ => P0_ k_) := by
 have HO0 := aM (show Kd.R (Kd.int .i64) 3 w w0.heap.size (fun k_ => (P0_ k_ ∨ w.heap.size ≤ k_)) u9000_ l0 from Kd.R_mono ho0 (fun k_ hk => (.inl hk)))
 have HK := aM (Kept.refl w (fun k_ => P0_ k_))
 have HW0 := aM hB.size
 have HB := aM hB
 clear hB
 have H : (laws_markIntS.l0 k l0 a1 0) = some (r1, r2) := h
 clear h
 have H' := aM H
 clear H
 go_enter Tryz.func15, Tryz.ntmps15
 go_wp2
 go_loopg [1, 5] k (fun kq v1 v5 w' => ∃ (x0_1 : List Int) (x1_1 : Int) (x5_1 : Int), v1 = .int .i64 x1_1 ∧ v5 = .int .i64 x5_1 ∧ Aside0 (laws_markIntS.l0 kq x0_1 x1_1 x5_1 = some (r1, r2)) ∧ Aside0 (kq ≤ k) ∧ Aside0 (Kd.R (Kd.int .i64) 3 w' w0.heap.size (fun k_ => (P0_ k_ ∨ w.heap.size ≤ k_)) u9000_ x0_1) ∧ Aside0 (Kept w w' (fun k_ => P0_ k_)) ∧ Aside0 (Below w0.heap.size w0 w'))
 case atStart => exact ⟨(l0), (a1), (0), (by rfl), (by rfl), H', ⟨Nat.le_refl _⟩, ⟨by exact HO0.out⟩, ⟨by repeat ((with_reducible exact HK.out))⟩, ⟨by repeat ((with_reducible exact HB.out))⟩⟩
 clear H'
 obtain ⟨x0_1, x1_1, x5_1, rfl, rfl, HA, HK1, HO_0, HK, HB⟩ := hrel
 cases gk with
 | zero => exact absurd HA.out (by simp [laws_markIntS.l0])
 | succ k1 =>
  have H := HA.out
  clear HA
  simp only [laws_markIntS.l0] at H
  by_cases c3 : x5_1 < (x0_1.length : Int)
  rotate_left
  ·rw [if_neg c3] at H
   have c3b0 : decide (x5_1 < (x0_1.length : Int)) = false := decide_eq_false c3
   clear c3
   simp only [Option.some.injEq, Prod.mk.injEq] at H
   obtain ⟨rfl, rfl⟩ := H
   obtain ⟨Ao9, co9, eo9⟩ := Kd.R_slice HO_0.out
   subst eo9
   go_wp2
   go_ret
   exact ⟨by rfl, by exact HO_0.out, by repeat ((with_reducible exact HB.out)), by repeat ((with_reducible exact HK.out))⟩
  rw [if_pos c3] at H
  have c3b0 : decide (x5_1 < (x0_1.length : Int)) = true := decide_eq_true c3
  clear c3
  by_cases c4 : 0 ≤ x5_1
  rotate_left
  ·rw [if_neg c4] at H
   exact absurd H (by simp)
  rw [if_pos c4] at H
  have c4b0 : decide (0 ≤ x5_1) = true := decide_eq_true c4
  clear c4
  obtain ⟨y207, hy207⟩ : ∃ y_ : List Int, y_ = (x0_1.set (x5_1 : Int).toNat x1_1) := ⟨_, rfl⟩
  replace H : (laws_markIntS.l0 k1 y207 (wrap64 (x1_1 + 1)) (wrap64 (x5_1 + 1))) = some (r1, r2) := by (rw [hy207]; with_reducible exact H)
  have Ny207 := aM hy207
  clear hy207
  have H' := aM H
  clear H
  obtain ⟨Ao6, co6, eo6⟩ := Kd.R_slice HO_0.out
  subst eo6
  have p5 : 0 ≤ (x5_1 : Int) := oD ‹_›
  have q5 : (x5_1 : Int) < ((x0_1.length : Int) : Int) := oD ‹_›
  obtain ⟨go5, co5, eo5, gb5, gl5, cl5, HG5⟩ := Kd.R_form HO_0.out (by omega)
  (cases eo5)
  have GB5 := aM gb5
  have GG5 := aM HG5
  clear gb5 gl5 HG5
  have HMgo5 := aM (show (P0_ go5 ∨ w.heap.size ≤ go5) from (HO_0.out.1 _ rfl))
  obtain ⟨hx5_0, hf5_0⟩ := Kd.R_celln 0 HO_0.out (x5_1 : Int) p5 q5
  replace p5 := eq_true p5
  replace q5 := eq_true q5
  have HP7 := Kd.R_putg HO_0.out (x5_1 : Int) x1_1
  go_wp2_with (((with_reducible refine gate_store (t := 3) (p := 15) rfl ?_); refine store_event (t := 3) (p := 15) (v := ?vo_w8) (w1 := (wr.setCell ⟨go5, (x5_1 : Int).toNat, none⟩ (.int .i64 x1_1))) ?hg ?ho ?hn ?hr ?_; (case ho => rfl); (case hg => rfl); (case hn => rfl); (case hr => (go_simp; done)); intro w8 hw; have hg : wr.grownBy w8 (some go5) := (by rw [hw]; exact HP7.2); have hp_ : Kd.R (Kd.int .i64) 3 w8 w0.heap.size (fun k_ => (P0_ k_ ∨ w.heap.size ≤ k_)) (.slice (some ⟨go5, 0, none⟩) x0_1.length co6) y207 := (by rw [hw, Ny207.out]; exact HP7.1); clear HP7; replace HB := aM ((by rw [hw]; exact below_set (HB.out) GB5.out : Below w0.heap.size w0 w8)); replace HK := aM (Kept.of_grown (S := (fun k_ => P0_ k_)) hg HK.out (fun k_ e_ => (HO_0.out.1 k_ e_))); replace HO_0 := aM (hp_); clear hg hw hp_))
  go_roundg k1
  case measure => have := HK1.out; omega
  case rel => exact ⟨(y207), (wrap64 (x1_1 + 1)), (wrap64 (x5_1 + 1)), (by rfl), (by rfl), H', ⟨by have := HK1.out; omega⟩, ⟨by exact HO_0.out⟩, ⟨by repeat ((with_reducible exact HK.out))⟩, ⟨by repeat ((with_reducible exact HB.out))⟩⟩
def laws_markText.l0 : Nat → Int → ByteArray → Option (ByteArray)
 | 0, _, _ => none
 | k + 1, x0, x3 => if x0 > 0 then ((some (([(wrap64 (48 + (Int.tmod x0 10))) % 256] : List Int) : List Int)).bind fun y208 => (if (strOfNums y208).size + x3.size ≤ 9223372036854775807 then (laws_markText.l0 k (wrap64 (Int.tdiv x0 10)) ((strOfNums y208) ++ x3)) else (none))) else (if 1 + x3.size ≤ 9223372036854775807 then (some ((⟨#[109]⟩ : ByteArray) ++ x3)) else (none))
def laws_markText.f (k : Nat) (a0 : Int) : Option (ByteArray) := if a0 ≤ 0 then (some (⟨#[109, 48]⟩ : ByteArray)) else (laws_markText.l0 k a0 (⟨#[]⟩ : ByteArray))
theorem laws_markText.calls (k : Nat) (a0 : Int) (r : ByteArray) (w : World) (h : laws_markText.f k a0 = some r) :
  Calls Tryz.prog 67 #[.int .i64 a0] w fun e w' => e = .returned (.string r) ∧ Below w.heap.size w w' := by
 have HB := aM (Below.refl w.heap.size w)
 have H : (if a0 ≤ 0 then (some (⟨#[109, 48]⟩ : ByteArray)) else (laws_markText.l0 k a0 (⟨#[]⟩ : ByteArray))) = some r := h
 clear h
 by_cases c2 : a0 ≤ 0
 ·rw [if_pos c2] at H
  have c2b0 : decide (a0 ≤ 0) = true := decide_eq_true c2
  clear c2
  obtain rfl := Option.some.inj H
  go_enter Tryz.func67, Tryz.ntmps67
  go_wp2
  go_ret
  exact ⟨by rfl, by repeat ((with_reducible exact HB.out))⟩
 rw [if_neg c2] at H
 have c2b0 : decide (a0 ≤ 0) = false := decide_eq_false c2
 clear c2
 have H' := aM H
 clear H
 go_enter Tryz.func67, Tryz.ntmps67
 go_wp2
 go_loopg [0, 3] k (fun kq v0 v3 w' => ∃ (x0_1 : Int) (x3_1 : ByteArray), v0 = .int .i64 x0_1 ∧ v3 = .string x3_1 ∧ Aside0 (laws_markText.l0 kq x0_1 x3_1 = some r) ∧ Aside0 (kq ≤ k) ∧ Aside0 (Below w.heap.size w w'))
 case atStart => exact ⟨(a0), ((⟨#[]⟩ : ByteArray)), (by rfl), (by rfl), H', ⟨Nat.le_refl _⟩, ⟨by repeat ((with_reducible exact HB.out))⟩⟩
 clear H'
 (try clear c2b0)
 obtain ⟨x0_1, x3_1, rfl, rfl, HA, HK1, HB⟩ := hrel
 cases gk with
 | zero => exact absurd HA.out (by simp [laws_markText.l0])
 | succ k1 =>
  have H := HA.out
  clear HA
  simp only [laws_markText.l0] at H
  by_cases c3 : x0_1 > 0
  rotate_left
  ·rw [if_neg c3] at H
   have c3b0 : decide (0 < x0_1) = false := decide_eq_false c3
   clear c3
   by_cases c8 : 1 + x3_1.size ≤ 9223372036854775807
   rotate_left
   ·rw [if_neg c8] at H
    exact absurd H (by simp)
   rw [if_pos c8] at H
   have c8b0 := eq_true c8
   have c8b1 : decide (1 + x3_1.size ≤ 9223372036854775807) = true := decide_eq_true c8
   try have c8b2 : (9223372036854775807 < 1 + x3_1.size) = False := eq_false (Nat.not_lt.2 c8)
   obtain rfl := Option.some.inj H
   go_wp2
   go_ret
   exact ⟨by rfl, by repeat ((with_reducible exact HB.out))⟩
  rw [if_pos c3] at H
  have c3b0 : decide (0 < x0_1) = true := decide_eq_true c3
  clear c3
  obtain ⟨y208, hy208⟩ : ∃ y_ : List Int, y_ = (([(wrap64 (48 + (Int.tmod x0_1 10))) % 256] : List Int)) := ⟨_, rfl⟩
  replace H : (if (strOfNums y208).size + x3_1.size ≤ 9223372036854775807 then (laws_markText.l0 k1 (wrap64 (Int.tdiv x0_1 10)) ((strOfNums y208) ++ x3_1)) else (none)) = some r := by (have H2_ := (Option.bind_some _ _).symm.trans H; rw [hy208]; with_reducible exact H2_)
  have Ny208 := aM hy208
  clear hy208
  by_cases c4 : (strOfNums y208).size + x3_1.size ≤ 9223372036854775807
  rotate_left
  ·rw [if_neg c4] at H
   exact absurd H (by simp)
  rw [if_pos c4] at H
  have c4b0 := eq_true c4
  have c4b1 : decide ((strOfNums y208).size + x3_1.size ≤ 9223372036854775807) = true := decide_eq_true c4
  try have c4b2 : (9223372036854775807 < (strOfNums y208).size + x3_1.size) = False := eq_false (Nat.not_lt.2 c4)
  have H' := aM H
  clear H
  go_wp2_with (((with_reducible refine gate_dst (N := 12) rfl ?_); refine Kd.R_lit (Kd.int .u8) _ 5 ?hg (N := 12) ?hd (xs := ([(wrap64 (48 + (Int.tmod x0_1 10))) % 256] : List Int)) (inner := [.int .u8 ((wrap64 (48 + (Int.tmod x0_1 10))) % 256)]) (ok := fun _ => True) (okp := fun _ => True) ?hr ?hp (fun _ hk => hk) trivial (Below.refl _ _) (Nat.le_refl _) (by simp) ?_; (case hd => rfl); (case hg => rfl); (case hr => (go_simp; done)); (case hp => exact (Reps.one (show Kd.M (Kd.int .u8) _ _ _ ((wrap64 (48 + (Int.tmod x0_1 10))) % 256) [.int .u8 ((wrap64 (48 + (Int.tmod x0_1 10))) % 256)] from rfl) (Reps.none _ _))); intro v209 w5 ho6 hb hg_ hnew_; clear hg_ hnew_; (rw [← Ny208.out] at ho6); have HO210 := aM (Kd.R_lower ho6 (below_size HB.out)); replace HB := aB HB hb; clear hb ho6; have hcv7 := own_string (P := Tryz.prog) Tryz.underlying127 Tryz.underlying5 Tryz.underlying9 (Kd.own_of_R HO210.out)))
  go_roundg k1
  case measure => have := HK1.out; omega
  case rel => exact ⟨(wrap64 (Int.tdiv x0_1 10)), ((strOfNums y208) ++ x3_1), (by rfl), (by rfl), H', ⟨by have := HK1.out; omega⟩, ⟨by repeat ((with_reducible exact HB.out))⟩⟩
def laws_markStringS.l0 : Nat → List ByteArray → Int → Int → Option (Int × List ByteArray)
 | 0, _, _, _ => none
 | k + 1, x0, x1, x5 => if x5 < (x0.length : Int) then ((laws_markText.f k x1).bind fun t211 => (if 0 ≤ x5 then (laws_markStringS.l0 k (x0.set (x5 : Int).toNat t211) (wrap64 (x1 + 1)) (wrap64 (x5 + 1))) else (none))) else (some (x1, x0))
def laws_markStringS.f (k : Nat) (l0 : List ByteArray) (a1 : Int) : Option (Int × List ByteArray) := laws_markStringS.l0 k l0 a1 0
theorem laws_markStringS.calls (k : Nat) (P0_ : Nat → Prop) (u9000_ : Value) (l0 : List ByteArray) (a1 : Int) (r1 : Int) (r2 : List ByteArray) (w0 w : World) (hB : Below w0.heap.size w0 w) (ho0 : Kd.R Kd.string 9 w w0.heap.size P0_ u9000_ l0) (h : laws_markStringS.f k l0 a1 = some (r1, r2)) :
  Calls Tryz.prog 45 #[u9000_, .int .i64 a1] w fun e w' => e = .returned (.int .i64 r1) ∧ Kd.R Kd.string 9 w' w0.heap.size (fun k_ => (P0_ k_ ∨ w.heap.size ≤ k_)) u9000_ r2 ∧ Below w0.heap.size w0 w' ∧ Kept w w' (fun k_ => P0_ k_) := by
 have HO0 := aM (show Kd.R Kd.string 9 w w0.heap.size (fun k_ => (P0_ k_ ∨ w.heap.size ≤ k_)) u9000_ l0 from Kd.R_mono ho0 (fun k_ hk => (.inl hk)))
 have HK := aM (Kept.refl w (fun k_ => P0_ k_))
 have HW0 := aM hB.size
 have HB := aM hB
 clear hB
 have H : (laws_markStringS.l0 k l0 a1 0) = some (r1, r2) := h
 clear h
 have H' := aM H
 clear H
 go_enter Tryz.func45, Tryz.ntmps45
 go_wp2
 go_loopg [1, 5] k (fun kq v1 v5 w' => ∃ (x0_1 : List ByteArray) (x1_1 : Int) (x5_1 : Int), v1 = .int .i64 x1_1 ∧ v5 = .int .i64 x5_1 ∧ Aside0 (laws_markStringS.l0 kq x0_1 x1_1 x5_1 = some (r1, r2)) ∧ Aside0 (kq ≤ k) ∧ Aside0 (Kd.R Kd.string 9 w' w0.heap.size (fun k_ => (P0_ k_ ∨ w.heap.size ≤ k_)) u9000_ x0_1) ∧ Aside0 (Kept w w' (fun k_ => P0_ k_)) ∧ Aside0 (Below w0.heap.size w0 w'))
 case atStart => exact ⟨(l0), (a1), (0), (by rfl), (by rfl), H', ⟨Nat.le_refl _⟩, ⟨by exact HO0.out⟩, ⟨by repeat ((with_reducible exact HK.out))⟩, ⟨by repeat ((with_reducible exact HB.out))⟩⟩
 clear H'
 obtain ⟨x0_1, x1_1, x5_1, rfl, rfl, HA, HK1, HO_0, HK, HB⟩ := hrel
 cases gk with
 | zero => exact absurd HA.out (by simp [laws_markStringS.l0])
 | succ k1 =>
  have H := HA.out
  clear HA
  simp only [laws_markStringS.l0] at H
  by_cases c3 : x5_1 < (x0_1.length : Int)
  rotate_left
  ·rw [if_neg c3] at H
   have c3b0 : decide (x5_1 < (x0_1.length : Int)) = false := decide_eq_false c3
   clear c3
   simp only [Option.some.injEq, Prod.mk.injEq] at H
   obtain ⟨rfl, rfl⟩ := H
   obtain ⟨Ao11, co11, eo11⟩ := Kd.R_slice HO_0.out
   subst eo11
   go_wp2
   go_ret
   exact ⟨by rfl, by exact HO_0.out, by repeat ((with_reducible exact HB.out)), by repeat ((with_reducible exact HK.out))⟩
  rw [if_pos c3] at H
  have c3b0 : decide (x5_1 < (x0_1.length : Int)) = true := decide_eq_true c3
  clear c3
  replace H := bS H
  obtain ⟨t211, A40, H⟩ := H
  replace H : (if 0 ≤ x5_1 then (laws_markStringS.l0 k1 (x0_1.set (x5_1 : Int).toNat t211) (wrap64 (x1_1 + 1)) (wrap64 (x5_1 + 1))) else (none)) = some (r1, r2) := H
  have A4 := aM A40
  clear A40
  by_cases c5 : 0 ≤ x5_1
  rotate_left
  ·rw [if_neg c5] at H
   exact absurd H (by simp)
  rw [if_pos c5] at H
  have c5b0 : decide (0 ≤ x5_1) = true := decide_eq_true c5
  clear c5
  obtain ⟨y212, hy212⟩ : ∃ y_ : List ByteArray, y_ = (x0_1.set (x5_1 : Int).toNat t211) := ⟨_, rfl⟩
  replace H : (laws_markStringS.l0 k1 y212 (wrap64 (x1_1 + 1)) (wrap64 (x5_1 + 1))) = some (r1, r2) := by (rw [hy212]; with_reducible exact H)
  have Ny212 := aM hy212
  clear hy212
  have H' := aM H
  clear H
  obtain ⟨Ao7, co7, eo7⟩ := Kd.R_slice HO_0.out
  subst eo7
  go_wp2_with (first | (go_at_call 67; (with_reducible refine (laws_markText.calls k1 x1_1 t211 _ A4.out).mono ?_); rintro e w8 ⟨rfl, hb⟩; replace HO_0 := aM (Kd.R_below HO_0.out hb); replace HK := aM (Kept.below (S := (fun k_ => P0_ k_)) HK.out hb); replace HB := aB HB hb; (try clear hb); have p6 : 0 ≤ (x5_1 : Int) := oD ‹_›; have q6 : (x5_1 : Int) < ((x0_1.length : Int) : Int) := oD ‹_›; obtain ⟨go6, co6, eo6, gb6, gl6, cl6, HG6⟩ := Kd.R_form HO_0.out (by omega); (cases eo6); have GB6 := aM gb6; have GG6 := aM HG6; clear gb6 gl6 HG6; have HMgo6 := aM (show (P0_ go6 ∨ w.heap.size ≤ go6) from (HO_0.out.1 _ rfl)); obtain ⟨hx6_0, hf6_0⟩ := Kd.R_celln (⟨#[]⟩ : ByteArray) HO_0.out (x5_1 : Int) p6 q6; replace p6 := eq_true p6; replace q6 := eq_true q6; obtain ⟨hy9_, hz9_⟩ := Kd.R_celln (⟨#[]⟩ : ByteArray) HO_0.out (x5_1 : Int) (oD ‹_›) (oD ‹_›); have HP9 := Kd.R_putg HO_0.out (x5_1 : Int) t211) | ((with_reducible refine gate_store (t := 9) (p := 16) rfl ?_); refine store_event (t := 9) (p := 16) (v := ?vo_w10) (w1 := (w8.setCell ⟨go6, (x5_1 : Int).toNat, none⟩ (.string t211))) ?hg ?ho ?hn ?hr ?_; (case ho => rfl); (case hg => rfl); (case hn => rfl); (case hr => (go_simp; done)); intro w10 hw; have hg : w8.grownBy w10 (some go6) := (by rw [hw]; exact HP9.2); have hp_ : Kd.R Kd.string 9 w10 w0.heap.size (fun k_ => (P0_ k_ ∨ w.heap.size ≤ k_)) (.slice (some ⟨go6, 0, none⟩) x0_1.length co7) y212 := (by rw [hw, Ny212.out]; exact HP9.1); clear HP9; replace HB := aM ((by rw [hw]; exact below_set (HB.out) GB6.out : Below w0.heap.size w0 w10)); replace HK := aM (Kept.of_grown (S := (fun k_ => P0_ k_)) hg HK.out (fun k_ e_ => (HO_0.out.1 k_ e_))); replace HO_0 := aM (hp_); clear hg hw hp_))
  go_roundg k1
  case measure => have := HK1.out; omega
  case rel => exact ⟨(y212), (wrap64 (x1_1 + 1)), (wrap64 (x5_1 + 1)), (by rfl), (by rfl), H', ⟨by have := HK1.out; omega⟩, ⟨by exact HO_0.out⟩, ⟨by repeat ((with_reducible exact HK.out))⟩, ⟨by repeat ((with_reducible exact HB.out))⟩⟩
def laws_markLinkS.l0 : Nat → List (S92) → Int → Int → Option (Int × (List (S92)))
 | 0, _, _, _ => none
 | k + 1, x0, x1, x5 => if x5 < (x0.length : Int) then (if 0 ≤ x5 then ((some (x0.set (x5 : Int).toNat (⟨x1, (rd_T92 x0 x5).f1, (rd_T92 x0 x5).f2⟩ : S92) : List (S92))).bind fun y213 => ((some (y213.set (x5 : Int).toNat (⟨(rd_T92 y213 x5).f0, wrap64 (x1 + 1), (rd_T92 y213 x5).f2⟩ : S92) : List (S92))).bind fun y214 => (laws_markLinkS.l0 k (y214.set (x5 : Int).toNat (⟨(rd_T92 y214 x5).f0, (rd_T92 y214 x5).f1, wrap64 ((wrap64 (x1 + 1)) + 1)⟩ : S92)) (wrap64 ((wrap64 ((wrap64 (x1 + 1)) + 1)) + 1)) (wrap64 (x5 + 1))))) else (none)) else (some (x1, x0))
def laws_markLinkS.f (k : Nat) (l0 : List (S92)) (a1 : Int) : Option (Int × (List (S92))) := laws_markLinkS.l0 k l0 a1 0
theorem laws_markLinkS.calls (k : Nat) (P0_ : Nat → Prop) (u9000_ : Value) (l0 : List (S92)) (a1 : Int) (r1 : Int) (r2 : List (S92)) (w0 w : World) (hB : Below w0.heap.size w0 w) (ho0 : Kd.R k92 83 w w0.heap.size P0_ u9000_ l0) (h : laws_markLinkS.f k l0 a1 = some (r1, r2)) :
  Calls Tryz.prog 46 #[u9000_, .int .i64 a1] w fun e w' => e = .returned (.int .i64 r1) ∧ Kd.R k92 83 w' w0.heap.size (fun k_ => (P0_ k_ ∨ w.heap.size ≤ k_)) u9000_ r2 ∧ Below w0.heap.size w0 w' ∧ Kept w w' (fun k_ => P0_ k_) := by
 have HO0 := aM (show Kd.R k92 83 w w0.heap.size (fun k_ => (P0_ k_ ∨ w.heap.size ≤ k_)) u9000_ l0 from Kd.R_mono ho0 (fun k_ hk => (.inl hk)))
 have HK := aM (Kept.refl w (fun k_ => P0_ k_))
 have HW0 := aM hB.size
 have HB := aM hB
 clear hB
 have H : (laws_markLinkS.l0 k l0 a1 0) = some (r1, r2) := h
 clear h
 have H' := aM H
 clear H
 go_enter Tryz.func46, Tryz.ntmps46
 go_wp2
 go_loopg [1, 5] k (fun kq v1 v5 w' => ∃ (x0_1 : List (S92)) (x1_1 : Int) (x5_1 : Int), v1 = .int .i64 x1_1 ∧ v5 = .int .i64 x5_1 ∧ Aside0 (laws_markLinkS.l0 kq x0_1 x1_1 x5_1 = some (r1, r2)) ∧ Aside0 (kq ≤ k) ∧ Aside0 (Kd.R k92 83 w' w0.heap.size (fun k_ => (P0_ k_ ∨ w.heap.size ≤ k_)) u9000_ x0_1) ∧ Aside0 (Kept w w' (fun k_ => P0_ k_)) ∧ Aside0 (Below w0.heap.size w0 w'))
 case atStart => exact ⟨(l0), (a1), (0), (by rfl), (by rfl), H', ⟨Nat.le_refl _⟩, ⟨by exact HO0.out⟩, ⟨by repeat ((with_reducible exact HK.out))⟩, ⟨by repeat ((with_reducible exact HB.out))⟩⟩
 clear H'
 obtain ⟨x0_1, x1_1, x5_1, rfl, rfl, HA, HK1, HO_0, HK, HB⟩ := hrel
 cases gk with
 | zero => exact absurd HA.out (by simp [laws_markLinkS.l0])
 | succ k1 =>
  have H := HA.out
  clear HA
  simp only [laws_markLinkS.l0] at H
  by_cases c3 : x5_1 < (x0_1.length : Int)
  rotate_left
  ·rw [if_neg c3] at H
   have c3b0 : decide (x5_1 < (x0_1.length : Int)) = false := decide_eq_false c3
   clear c3
   simp only [Option.some.injEq, Prod.mk.injEq] at H
   obtain ⟨rfl, rfl⟩ := H
   obtain ⟨Ao15, co15, eo15⟩ := Kd.R_slice HO_0.out
   subst eo15
   go_wp2
   go_ret
   exact ⟨by rfl, by exact HO_0.out, by repeat ((with_reducible exact HB.out)), by repeat ((with_reducible exact HK.out))⟩
  rw [if_pos c3] at H
  have c3b0 : decide (x5_1 < (x0_1.length : Int)) = true := decide_eq_true c3
  clear c3
  by_cases c4 : 0 ≤ x5_1
  rotate_left
  ·rw [if_neg c4] at H
   exact absurd H (by simp)
  rw [if_pos c4] at H
  have c4b0 : decide (0 ≤ x5_1) = true := decide_eq_true c4
  clear c4
  obtain ⟨y213, hy213⟩ : ∃ y_ : List (S92), y_ = (x0_1.set (x5_1 : Int).toNat (⟨x1_1, (rd_T92 x0_1 x5_1).f1, (rd_T92 x0_1 x5_1).f2⟩ : S92)) := ⟨_, rfl⟩
  replace H : ((some (y213.set (x5_1 : Int).toNat (⟨(rd_T92 y213 x5_1).f0, wrap64 (x1_1 + 1), (rd_T92 y213 x5_1).f2⟩ : S92) : List (S92))).bind fun y214 => (laws_markLinkS.l0 k1 (y214.set (x5_1 : Int).toNat (⟨(rd_T92 y214 x5_1).f0, (rd_T92 y214 x5_1).f1, wrap64 ((wrap64 (x1_1 + 1)) + 1)⟩ : S92)) (wrap64 ((wrap64 ((wrap64 (x1_1 + 1)) + 1)) + 1)) (wrap64 (x5_1 + 1)))) = some (r1, r2) := by (have H2_ := (Option.bind_some _ _).symm.trans H; rw [hy213]; with_reducible exact H2_)
  have Ny213 := aM hy213
  clear hy213
  obtain ⟨y214, hy214⟩ : ∃ y_ : List (S92), y_ = (y213.set (x5_1 : Int).toNat (⟨(rd_T92 y213 x5_1).f0, wrap64 (x1_1 + 1), (rd_T92 y213 x5_1).f2⟩ : S92)) := ⟨_, rfl⟩
  replace H : (laws_markLinkS.l0 k1 (y214.set (x5_1 : Int).toNat (⟨(rd_T92 y214 x5_1).f0, (rd_T92 y214 x5_1).f1, wrap64 ((wrap64 (x1_1 + 1)) + 1)⟩ : S92)) (wrap64 ((wrap64 ((wrap64 (x1_1 + 1)) + 1)) + 1)) (wrap64 (x5_1 + 1))) = some (r1, r2) := by (have H2_ := (Option.bind_some _ _).symm.trans H; rw [hy214]; with_reducible exact H2_)
  have Ny214 := aM hy214
  clear hy214
  obtain ⟨y215, hy215⟩ : ∃ y_ : List (S92), y_ = (y214.set (x5_1 : Int).toNat (⟨(rd_T92 y214 x5_1).f0, (rd_T92 y214 x5_1).f1, wrap64 ((wrap64 (x1_1 + 1)) + 1)⟩ : S92)) := ⟨_, rfl⟩
  replace H : (laws_markLinkS.l0 k1 y215 (wrap64 ((wrap64 ((wrap64 (x1_1 + 1)) + 1)) + 1)) (wrap64 (x5_1 + 1))) = some (r1, r2) := by (rw [hy215]; with_reducible exact H)
  have Ny215 := aM hy215
  clear hy215
  have H' := aM H
  clear H
  obtain ⟨Ao8, co8, eo8⟩ := Kd.R_slice HO_0.out
  subst eo8
  have p5 : 0 ≤ (x5_1 : Int) := oD ‹_›
  have q5 : (x5_1 : Int) < ((x0_1.length : Int) : Int) := oD ‹_›
  obtain ⟨go5, co5, eo5, gb5, gl5, cl5, HG5⟩ := Kd.R_form HO_0.out (by omega)
  (cases eo5)
  have GB5 := aM gb5
  have GG5 := aM HG5
  clear gb5 gl5 HG5
  have HMgo5 := aM (show (P0_ go5 ∨ w.heap.size ≤ go5) from (HO_0.out.1 _ rfl))
  obtain ⟨ce5, hcl5, hM5, hcc5, hfr5⟩ := Kd.R_elem HO_0.out z92 (x5_1 : Int) p5 q5
  obtain rfl := k92_openM hM5
  have hx5_0 : wr.cell? ⟨go5, (x5_1 : Int).toNat * 3, none⟩ = some (.int .i64 ((rd_T92 x0_1 x5_1).f0)) := hcc5 0 _ rfl
  have hx5_1 : wr.cell? ⟨go5, (x5_1 : Int).toNat * 3 + 1, none⟩ = some (.int .i64 ((rd_T92 x0_1 x5_1).f1)) := hcc5 1 _ rfl
  have hx5_2 : wr.cell? ⟨go5, (x5_1 : Int).toNat * 3 + 2, none⟩ = some (.int .i64 ((rd_T92 x0_1 x5_1).f2)) := hcc5 2 _ rfl
  have hf5_0 : wr.frozen? ⟨go5, (x5_1 : Int).toNat * 3, none⟩ = false := hfr5 0
  have hf5_1 : wr.frozen? ⟨go5, (x5_1 : Int).toNat * 3 + 1, none⟩ = false := hfr5 1
  have hf5_2 : wr.frozen? ⟨go5, (x5_1 : Int).toNat * 3 + 2, none⟩ = false := hfr5 2
  clear hcl5 hcc5 hfr5; (try clear hM5)
  replace p5 := eq_true p5
  replace q5 := eq_true q5
  have HX9 := aM (show Kd.R k92 83 wr w0.heap.size (fun k_ => (P0_ k_ ∨ w.heap.size ≤ k_)) (.slice (some ⟨go5, 0, none⟩) x0_1.length co8) x0_1 from HO_0.out)
  obtain ⟨ce9, hcl9, hM9, hcc9, hfr9⟩ := Kd.R_elem HX9.out z92 (x5_1 : Int) (oD ‹_›) (by have h_ : (x5_1 : Int) < ((x0_1.length : Int) : Int) := oD ‹_›; exact h_)
  obtain rfl := k92_openM hM9
  have HP9 := Kd.R_seg HX9.out (x5_1 : Int) (oD ‹_›) (by have h_ : (x5_1 : Int) < ((x0_1.length : Int) : Int) := oD ‹_›; exact h_) (seg := [.int .i64 x1_1]) (j := 0) hcl9 hcc9 (show 1 ≤ 3 from by decide) (x' := (⟨x1_1, (rd_T92 x0_1 x5_1).f1, (rd_T92 x0_1 x5_1).f2⟩ : S92)) (k92_mkM _ _ _ (⟨x1_1, (rd_T92 x0_1 x5_1).f1, (rd_T92 x0_1 x5_1).f2⟩ : S92) ) (fun _ hk => hk)
  have hx9_0 := hcc9 0 _ rfl
  (try simp only [show (k92).sz = 3 from rfl, Nat.mul_one, Nat.add_zero] at hx9_0)
  have hf9_0 := hfr9 0
  (try simp only [show (k92).sz = 3 from rfl, Nat.mul_one, Nat.add_zero] at hf9_0)
  clear hcl9 hcc9 hfr9; (try clear hM9)
  go_wp2_with (first | ((with_reducible refine gate_store (t := 3) (p := 16) rfl ?_); refine store_event (t := 3) (p := 16) (v := ?vo_w10) (w1 := (wr.setCell ⟨go5, (x5_1 : Int).toNat * 3, none⟩ (.int .i64 x1_1))) ?hg ?ho ?hn ?hr ?_; (case ho => rfl); (case hg => rfl); (case hn => rfl); (case hr => (go_simp; done)); intro w10 hw; have hg : wr.grownBy w10 (some go5) := (by rw [hw]; exact HP9.2); have hp_ : Kd.R k92 83 w10 w0.heap.size (fun k_ => (P0_ k_ ∨ w.heap.size ≤ k_)) (.slice (some ⟨go5, 0, none⟩) x0_1.length co8) y213 := (by rw [hw, Ny213.out]; exact HP9.1); clear HP9; replace HB := aM ((by rw [hw]; exact below_set (HB.out) GB5.out : Below w0.heap.size w0 w10)); replace HK := aM (Kept.of_grown (S := (fun k_ => P0_ k_)) hg HK.out (fun k_ e_ => (HO_0.out.1 k_ e_))); replace HO_0 := aM (hp_); clear hg hw hp_; have p6 : 0 ≤ (x5_1 : Int) := oD ‹_›; have q6 : (x5_1 : Int) < ((x0_1.length : Int) : Int) := oD ‹_›; obtain ⟨ce6, hcl6, hM6, hcc6, hfr6⟩ := Kd.R_elem HO_0.out z92 (x5_1 : Int) p6 q6; obtain rfl := k92_openM hM6; have hx6_0 : w10.cell? ⟨go5, (x5_1 : Int).toNat * 3, none⟩ = some (.int .i64 ((rd_T92 y213 x5_1).f0)) := hcc6 0 _ rfl; have hx6_1 : w10.cell? ⟨go5, (x5_1 : Int).toNat * 3 + 1, none⟩ = some (.int .i64 ((rd_T92 y213 x5_1).f1)) := hcc6 1 _ rfl; have hx6_2 : w10.cell? ⟨go5, (x5_1 : Int).toNat * 3 + 2, none⟩ = some (.int .i64 ((rd_T92 y213 x5_1).f2)) := hcc6 2 _ rfl; have hf6_0 : w10.frozen? ⟨go5, (x5_1 : Int).toNat * 3, none⟩ = false := hfr6 0; have hf6_1 : w10.frozen? ⟨go5, (x5_1 : Int).toNat * 3 + 1, none⟩ = false := hfr6 1; have hf6_2 : w10.frozen? ⟨go5, (x5_1 : Int).toNat * 3 + 2, none⟩ = false := hfr6 2; clear hcl6 hcc6 hfr6; (try clear hM6); replace p6 := eq_true p6; replace q6 := eq_true q6; have HX11 := aM (show Kd.R k92 83 w10 w0.heap.size (fun k_ => (P0_ k_ ∨ w.heap.size ≤ k_)) (.slice (some ⟨go5, 0, none⟩) x0_1.length co8) y213 from HO_0.out); obtain ⟨ce11, hcl11, hM11, hcc11, hfr11⟩ := Kd.R_elem HX11.out z92 (x5_1 : Int) (oD ‹_›) (by have h_ : (x5_1 : Int) < ((x0_1.length : Int) : Int) := oD ‹_›; exact h_); obtain rfl := k92_openM hM11; have HP11 := Kd.R_seg HX11.out (x5_1 : Int) (oD ‹_›) (by have h_ : (x5_1 : Int) < ((x0_1.length : Int) : Int) := oD ‹_›; exact h_) (seg := [.int .i64 (wrap64 (x1_1 + 1))]) (j := 1) hcl11 hcc11 (show 2 ≤ 3 from by decide) (x' := (⟨(rd_T92 y213 x5_1).f0, wrap64 (x1_1 + 1), (rd_T92 y213 x5_1).f2⟩ : S92)) (k92_mkM _ _ _ (⟨(rd_T92 y213 x5_1).f0, wrap64 (x1_1 + 1), (rd_T92 y213 x5_1).f2⟩ : S92) ) (fun _ hk => hk); have hx11_1 := hcc11 1 _ rfl; (try simp only [show (k92).sz = 3 from rfl, Nat.mul_one, Nat.add_zero] at hx11_1); have hf11_1 := hfr11 1; (try simp only [show (k92).sz = 3 from rfl, Nat.mul_one, Nat.add_zero] at hf11_1); clear hcl11 hcc11 hfr11; (try clear hM11)) | ((with_reducible refine gate_store (t := 3) (p := 23) rfl ?_); refine store_event (t := 3) (p := 23) (v := ?vo_w12) (w1 := (w10.setCell ⟨go5, (x5_1 : Int).toNat * 3 + 1, none⟩ (.int .i64 (wrap64 (x1_1 + 1))))) ?hg ?ho ?hn ?hr ?_; (case ho => rfl); (case hg => rfl); (case hn => rfl); (case hr => (go_simp; done)); intro w12 hw; have hg : w10.grownBy w12 (some go5) := (by rw [hw]; exact HP11.2); have hp_ : Kd.R k92 83 w12 w0.heap.size (fun k_ => (P0_ k_ ∨ w.heap.size ≤ k_)) (.slice (some ⟨go5, 0, none⟩) x0_1.length co8) y214 := (by rw [hw, Ny214.out]; exact HP11.1); clear HP11; replace HB := aM ((by rw [hw]; exact below_set (HB.out) GB5.out : Below w0.heap.size w0 w12)); replace HK := aM (Kept.of_grown (S := (fun k_ => P0_ k_)) hg HK.out (fun k_ e_ => (HO_0.out.1 k_ e_))); replace HO_0 := aM (hp_); clear hg hw hp_; have p7 : 0 ≤ (x5_1 : Int) := oD ‹_›; have q7 : (x5_1 : Int) < ((x0_1.length : Int) : Int) := oD ‹_›; obtain ⟨ce7, hcl7, hM7, hcc7, hfr7⟩ := Kd.R_elem HO_0.out z92 (x5_1 : Int) p7 q7; obtain rfl := k92_openM hM7; have hx7_0 : w12.cell? ⟨go5, (x5_1 : Int).toNat * 3, none⟩ = some (.int .i64 ((rd_T92 y214 x5_1).f0)) := hcc7 0 _ rfl; have hx7_1 : w12.cell? ⟨go5, (x5_1 : Int).toNat * 3 + 1, none⟩ = some (.int .i64 ((rd_T92 y214 x5_1).f1)) := hcc7 1 _ rfl; have hx7_2 : w12.cell? ⟨go5, (x5_1 : Int).toNat * 3 + 2, none⟩ = some (.int .i64 ((rd_T92 y214 x5_1).f2)) := hcc7 2 _ rfl; have hf7_0 : w12.frozen? ⟨go5, (x5_1 : Int).toNat * 3, none⟩ = false := hfr7 0; have hf7_1 : w12.frozen? ⟨go5, (x5_1 : Int).toNat * 3 + 1, none⟩ = false := hfr7 1; have hf7_2 : w12.frozen? ⟨go5, (x5_1 : Int).toNat * 3 + 2, none⟩ = false := hfr7 2; clear hcl7 hcc7 hfr7; (try clear hM7); replace p7 := eq_true p7; replace q7 := eq_true q7; have HX13 := aM (show Kd.R k92 83 w12 w0.heap.size (fun k_ => (P0_ k_ ∨ w.heap.size ≤ k_)) (.slice (some ⟨go5, 0, none⟩) x0_1.length co8) y214 from HO_0.out); obtain ⟨ce13, hcl13, hM13, hcc13, hfr13⟩ := Kd.R_elem HX13.out z92 (x5_1 : Int) (oD ‹_›) (by have h_ : (x5_1 : Int) < ((x0_1.length : Int) : Int) := oD ‹_›; exact h_); obtain rfl := k92_openM hM13; have HP13 := Kd.R_seg HX13.out (x5_1 : Int) (oD ‹_›) (by have h_ : (x5_1 : Int) < ((x0_1.length : Int) : Int) := oD ‹_›; exact h_) (seg := [.int .i64 (wrap64 ((wrap64 (x1_1 + 1)) + 1))]) (j := 2) hcl13 hcc13 (show 3 ≤ 3 from by decide) (x' := (⟨(rd_T92 y214 x5_1).f0, (rd_T92 y214 x5_1).f1, wrap64 ((wrap64 (x1_1 + 1)) + 1)⟩ : S92)) (k92_mkM _ _ _ (⟨(rd_T92 y214 x5_1).f0, (rd_T92 y214 x5_1).f1, wrap64 ((wrap64 (x1_1 + 1)) + 1)⟩ : S92) ) (fun _ hk => hk); have hx13_2 := hcc13 2 _ rfl; (try simp only [show (k92).sz = 3 from rfl, Nat.mul_one, Nat.add_zero] at hx13_2); have hf13_2 := hfr13 2; (try simp only [show (k92).sz = 3 from rfl, Nat.mul_one, Nat.add_zero] at hf13_2); clear hcl13 hcc13 hfr13; (try clear hM13)) | ((with_reducible refine gate_store (t := 3) (p := 30) rfl ?_); refine store_event (t := 3) (p := 30) (v := ?vo_w14) (w1 := (w12.setCell ⟨go5, (x5_1 : Int).toNat * 3 + 2, none⟩ (.int .i64 (wrap64 ((wrap64 (x1_1 + 1)) + 1))))) ?hg ?ho ?hn ?hr ?_; (case ho => rfl); (case hg => rfl); (case hn => rfl); (case hr => (go_simp; done)); intro w14 hw; have hg : w12.grownBy w14 (some go5) := (by rw [hw]; exact HP13.2); have hp_ : Kd.R k92 83 w14 w0.heap.size (fun k_ => (P0_ k_ ∨ w.heap.size ≤ k_)) (.slice (some ⟨go5, 0, none⟩) x0_1.length co8) y215 := (by rw [hw, Ny215.out]; exact HP13.1); clear HP13; replace HB := aM ((by rw [hw]; exact below_set (HB.out) GB5.out : Below w0.heap.size w0 w14)); replace HK := aM (Kept.of_grown (S := (fun k_ => P0_ k_)) hg HK.out (fun k_ e_ => (HO_0.out.1 k_ e_))); replace HO_0 := aM (hp_); clear hg hw hp_))
  go_roundg k1
  case measure => have := HK1.out; omega
  case rel => exact ⟨(y215), (wrap64 ((wrap64 ((wrap64 (x1_1 + 1)) + 1)) + 1)), (wrap64 (x5_1 + 1)), (by rfl), (by rfl), H', ⟨by have := HK1.out; omega⟩, ⟨by exact HO_0.out⟩, ⟨by repeat ((with_reducible exact HK.out))⟩, ⟨by repeat ((with_reducible exact HB.out))⟩⟩
def laws_markImportS.l0 : Nat → List (S95) → Int → Int → Option (Int × (List (S95)))
 | 0, _, _, _ => none
 | k + 1, x0, x1, x5 => if x5 < (x0.length : Int) then (if 0 ≤ x5 then ((some (x0.set (x5 : Int).toNat (⟨x1, (rd_T95 x0 x5).f1, (rd_T95 x0 x5).f2, (rd_T95 x0 x5).f3, (rd_T95 x0 x5).f4⟩ : S95) : List (S95))).bind fun y216 => ((some (y216.set (x5 : Int).toNat (⟨(rd_T95 y216 x5).f0, wrap64 (x1 + 1), (rd_T95 y216 x5).f2, (rd_T95 y216 x5).f3, (rd_T95 y216 x5).f4⟩ : S95) : List (S95))).bind fun y217 => ((some (y217.set (x5 : Int).toNat (⟨(rd_T95 y217 x5).f0, (rd_T95 y217 x5).f1, wrap64 ((wrap64 (x1 + 1)) + 1), (rd_T95 y217 x5).f3, (rd_T95 y217 x5).f4⟩ : S95) : List (S95))).bind fun y218 => ((some (y218.set (x5 : Int).toNat (⟨(rd_T95 y218 x5).f0, (rd_T95 y218 x5).f1, (rd_T95 y218 x5).f2, wrap64 ((wrap64 ((wrap64 (x1 + 1)) + 1)) + 1), (rd_T95 y218 x5).f4⟩ : S95) : List (S95))).bind fun y219 => (laws_markImportS.l0 k (y219.set (x5 : Int).toNat (⟨(rd_T95 y219 x5).f0, (rd_T95 y219 x5).f1, (rd_T95 y219 x5).f2, (rd_T95 y219 x5).f3, wrap64 ((wrap64 ((wrap64 ((wrap64 (x1 + 1)) + 1)) + 1)) + 1)⟩ : S95)) (wrap64 ((wrap64 ((wrap64 ((wrap64 ((wrap64 (x1 + 1)) + 1)) + 1)) + 1)) + 1)) (wrap64 (x5 + 1))))))) else (none)) else (some (x1, x0))
def laws_markImportS.f (k : Nat) (l0 : List (S95)) (a1 : Int) : Option (Int × (List (S95))) := laws_markImportS.l0 k l0 a1 0
theorem laws_markImportS.calls (k : Nat) (P0_ : Nat → Prop) (u9000_ : Value) (l0 : List (S95)) (a1 : Int) (r1 : Int) (r2 : List (S95)) (w0 w : World) (hB : Below w0.heap.size w0 w) (ho0 : Kd.R k95 87 w w0.heap.size P0_ u9000_ l0) (h : laws_markImportS.f k l0 a1 = some (r1, r2)) :
  Calls Tryz.prog 47 #[u9000_, .int .i64 a1] w fun e w' => e = .returned (.int .i64 r1) ∧ Kd.R k95 87 w' w0.heap.size (fun k_ => (P0_ k_ ∨ w.heap.size ≤ k_)) u9000_ r2 ∧ Below w0.heap.size w0 w' ∧ Kept w w' (fun k_ => P0_ k_) := by
 have HO0 := aM (show Kd.R k95 87 w w0.heap.size (fun k_ => (P0_ k_ ∨ w.heap.size ≤ k_)) u9000_ l0 from Kd.R_mono ho0 (fun k_ hk => (.inl hk)))
 have HK := aM (Kept.refl w (fun k_ => P0_ k_))
 have HW0 := aM hB.size
 have HB := aM hB
 clear hB
 have H : (laws_markImportS.l0 k l0 a1 0) = some (r1, r2) := h
 clear h
 have H' := aM H
 clear H
 go_enter Tryz.func47, Tryz.ntmps47
 go_wp2
 go_loopg [1, 5] k (fun kq v1 v5 w' => ∃ (x0_1 : List (S95)) (x1_1 : Int) (x5_1 : Int), v1 = .int .i64 x1_1 ∧ v5 = .int .i64 x5_1 ∧ Aside0 (laws_markImportS.l0 kq x0_1 x1_1 x5_1 = some (r1, r2)) ∧ Aside0 (kq ≤ k) ∧ Aside0 (Kd.R k95 87 w' w0.heap.size (fun k_ => (P0_ k_ ∨ w.heap.size ≤ k_)) u9000_ x0_1) ∧ Aside0 (Kept w w' (fun k_ => P0_ k_)) ∧ Aside0 (Below w0.heap.size w0 w'))
 case atStart => exact ⟨(l0), (a1), (0), (by rfl), (by rfl), H', ⟨Nat.le_refl _⟩, ⟨by exact HO0.out⟩, ⟨by repeat ((with_reducible exact HK.out))⟩, ⟨by repeat ((with_reducible exact HB.out))⟩⟩
 clear H'
 obtain ⟨x0_1, x1_1, x5_1, rfl, rfl, HA, HK1, HO_0, HK, HB⟩ := hrel
 cases gk with
 | zero => exact absurd HA.out (by simp [laws_markImportS.l0])
 | succ k1 =>
  have H := HA.out
  clear HA
  simp only [laws_markImportS.l0] at H
  by_cases c3 : x5_1 < (x0_1.length : Int)
  rotate_left
  ·rw [if_neg c3] at H
   have c3b0 : decide (x5_1 < (x0_1.length : Int)) = false := decide_eq_false c3
   clear c3
   simp only [Option.some.injEq, Prod.mk.injEq] at H
   obtain ⟨rfl, rfl⟩ := H
   obtain ⟨Ao21, co21, eo21⟩ := Kd.R_slice HO_0.out
   subst eo21
   go_wp2
   go_ret
   exact ⟨by rfl, by exact HO_0.out, by repeat ((with_reducible exact HB.out)), by repeat ((with_reducible exact HK.out))⟩
  rw [if_pos c3] at H
  have c3b0 : decide (x5_1 < (x0_1.length : Int)) = true := decide_eq_true c3
  clear c3
  by_cases c4 : 0 ≤ x5_1
  rotate_left
  ·rw [if_neg c4] at H
   exact absurd H (by simp)
  rw [if_pos c4] at H
  have c4b0 : decide (0 ≤ x5_1) = true := decide_eq_true c4
  clear c4
  obtain ⟨y216, hy216⟩ : ∃ y_ : List (S95), y_ = (x0_1.set (x5_1 : Int).toNat (⟨x1_1, (rd_T95 x0_1 x5_1).f1, (rd_T95 x0_1 x5_1).f2, (rd_T95 x0_1 x5_1).f3, (rd_T95 x0_1 x5_1).f4⟩ : S95)) := ⟨_, rfl⟩
  replace H : ((some (y216.set (x5_1 : Int).toNat (⟨(rd_T95 y216 x5_1).f0, wrap64 (x1_1 + 1), (rd_T95 y216 x5_1).f2, (rd_T95 y216 x5_1).f3, (rd_T95 y216 x5_1).f4⟩ : S95) : List (S95))).bind fun y217 => ((some (y217.set (x5_1 : Int).toNat (⟨(rd_T95 y217 x5_1).f0, (rd_T95 y217 x5_1).f1, wrap64 ((wrap64 (x1_1 + 1)) + 1), (rd_T95 y217 x5_1).f3, (rd_T95 y217 x5_1).f4⟩ : S95) : List (S95))).bind fun y218 => ((some (y218.set (x5_1 : Int).toNat (⟨(rd_T95 y218 x5_1).f0, (rd_T95 y218 x5_1).f1, (rd_T95 y218 x5_1).f2, wrap64 ((wrap64 ((wrap64 (x1_1 + 1)) + 1)) + 1), (rd_T95 y218 x5_1).f4⟩ : S95) : List (S95))).bind fun y219 => (laws_markImportS.l0 k1 (y219.set (x5_1 : Int).toNat (⟨(rd_T95 y219 x5_1).f0, (rd_T95 y219 x5_1).f1, (rd_T95 y219 x5_1).f2, (rd_T95 y219 x5_1).f3, wrap64 ((wrap64 ((wrap64 ((wrap64 (x1_1 + 1)) + 1)) + 1)) + 1)⟩ : S95)) (wrap64 ((wrap64 ((wrap64 ((wrap64 ((wrap64 (x1_1 + 1)) + 1)) + 1)) + 1)) + 1)) (wrap64 (x5_1 + 1)))))) = some (r1, r2) := by (have H2_ := (Option.bind_some _ _).symm.trans H; rw [hy216]; with_reducible exact H2_)
  have Ny216 := aM hy216
  clear hy216
  obtain ⟨y217, hy217⟩ : ∃ y_ : List (S95), y_ = (y216.set (x5_1 : Int).toNat (⟨(rd_T95 y216 x5_1).f0, wrap64 (x1_1 + 1), (rd_T95 y216 x5_1).f2, (rd_T95 y216 x5_1).f3, (rd_T95 y216 x5_1).f4⟩ : S95)) := ⟨_, rfl⟩
  replace H : ((some (y217.set (x5_1 : Int).toNat (⟨(rd_T95 y217 x5_1).f0, (rd_T95 y217 x5_1).f1, wrap64 ((wrap64 (x1_1 + 1)) + 1), (rd_T95 y217 x5_1).f3, (rd_T95 y217 x5_1).f4⟩ : S95) : List (S95))).bind fun y218 => ((some (y218.set (x5_1 : Int).toNat (⟨(rd_T95 y218 x5_1).f0, (rd_T95 y218 x5_1).f1, (rd_T95 y218 x5_1).f2, wrap64 ((wrap64 ((wrap64 (x1_1 + 1)) + 1)) + 1), (rd_T95 y218 x5_1).f4⟩ : S95) : List (S95))).bind fun y219 => (laws_markImportS.l0 k1 (y219.set (x5_1 : Int).toNat (⟨(rd_T95 y219 x5_1).f0, (rd_T95 y219 x5_1).f1, (rd_T95 y219 x5_1).f2, (rd_T95 y219 x5_1).f3, wrap64 ((wrap64 ((wrap64 ((wrap64 (x1_1 + 1)) + 1)) + 1)) + 1)⟩ : S95)) (wrap64 ((wrap64 ((wrap64 ((wrap64 ((wrap64 (x1_1 + 1)) + 1)) + 1)) + 1)) + 1)) (wrap64 (x5_1 + 1))))) = some (r1, r2) := by (have H2_ := (Option.bind_some _ _).symm.trans H; rw [hy217]; with_reducible exact H2_)
  have Ny217 := aM hy217
  clear hy217
  obtain ⟨y218, hy218⟩ : ∃ y_ : List (S95), y_ = (y217.set (x5_1 : Int).toNat (⟨(rd_T95 y217 x5_1).f0, (rd_T95 y217 x5_1).f1, wrap64 ((wrap64 (x1_1 + 1)) + 1), (rd_T95 y217 x5_1).f3, (rd_T95 y217 x5_1).f4⟩ : S95)) := ⟨_, rfl⟩
  replace H : ((some (y218.set (x5_1 : Int).toNat (⟨(rd_T95 y218 x5_1).f0, (rd_T95 y218 x5_1).f1, (rd_T95 y218 x5_1).f2, wrap64 ((wrap64 ((wrap64 (x1_1 + 1)) + 1)) + 1), (rd_T95 y218 x5_1).f4⟩ : S95) : List (S95))).bind fun y219 => (laws_markImportS.l0 k1 (y219.set (x5_1 : Int).toNat (⟨(rd_T95 y219 x5_1).f0, (rd_T95 y219 x5_1).f1, (rd_T95 y219 x5_1).f2, (rd_T95 y219 x5_1).f3, wrap64 ((wrap64 ((wrap64 ((wrap64 (x1_1 + 1)) + 1)) + 1)) + 1)⟩ : S95)) (wrap64 ((wrap64 ((wrap64 ((wrap64 ((wrap64 (x1_1 + 1)) + 1)) + 1)) + 1)) + 1)) (wrap64 (x5_1 + 1)))) = some (r1, r2) := by (have H2_ := (Option.bind_some _ _).symm.trans H; rw [hy218]; with_reducible exact H2_)
  have Ny218 := aM hy218
  clear hy218
  obtain ⟨y219, hy219⟩ : ∃ y_ : List (S95), y_ = (y218.set (x5_1 : Int).toNat (⟨(rd_T95 y218 x5_1).f0, (rd_T95 y218 x5_1).f1, (rd_T95 y218 x5_1).f2, wrap64 ((wrap64 ((wrap64 (x1_1 + 1)) + 1)) + 1), (rd_T95 y218 x5_1).f4⟩ : S95)) := ⟨_, rfl⟩
  replace H : (laws_markImportS.l0 k1 (y219.set (x5_1 : Int).toNat (⟨(rd_T95 y219 x5_1).f0, (rd_T95 y219 x5_1).f1, (rd_T95 y219 x5_1).f2, (rd_T95 y219 x5_1).f3, wrap64 ((wrap64 ((wrap64 ((wrap64 (x1_1 + 1)) + 1)) + 1)) + 1)⟩ : S95)) (wrap64 ((wrap64 ((wrap64 ((wrap64 ((wrap64 (x1_1 + 1)) + 1)) + 1)) + 1)) + 1)) (wrap64 (x5_1 + 1))) = some (r1, r2) := by (have H2_ := (Option.bind_some _ _).symm.trans H; rw [hy219]; with_reducible exact H2_)
  have Ny219 := aM hy219
  clear hy219
  obtain ⟨y220, hy220⟩ : ∃ y_ : List (S95), y_ = (y219.set (x5_1 : Int).toNat (⟨(rd_T95 y219 x5_1).f0, (rd_T95 y219 x5_1).f1, (rd_T95 y219 x5_1).f2, (rd_T95 y219 x5_1).f3, wrap64 ((wrap64 ((wrap64 ((wrap64 (x1_1 + 1)) + 1)) + 1)) + 1)⟩ : S95)) := ⟨_, rfl⟩
  replace H : (laws_markImportS.l0 k1 y220 (wrap64 ((wrap64 ((wrap64 ((wrap64 ((wrap64 (x1_1 + 1)) + 1)) + 1)) + 1)) + 1)) (wrap64 (x5_1 + 1))) = some (r1, r2) := by (rw [hy220]; with_reducible exact H)
  have Ny220 := aM hy220
  clear hy220
  have H' := aM H
  clear H
  obtain ⟨Ao10, co10, eo10⟩ := Kd.R_slice HO_0.out
  subst eo10
  have p5 : 0 ≤ (x5_1 : Int) := oD ‹_›
  have q5 : (x5_1 : Int) < ((x0_1.length : Int) : Int) := oD ‹_›
  obtain ⟨go5, co5, eo5, gb5, gl5, cl5, HG5⟩ := Kd.R_form HO_0.out (by omega)
  (cases eo5)
  have GB5 := aM gb5
  have GG5 := aM HG5
  clear gb5 gl5 HG5
  have HMgo5 := aM (show (P0_ go5 ∨ w.heap.size ≤ go5) from (HO_0.out.1 _ rfl))
  obtain ⟨ce5, hcl5, hM5, hcc5, hfr5⟩ := Kd.R_elem HO_0.out z95 (x5_1 : Int) p5 q5
  obtain rfl := k95_openM hM5
  have hx5_0 : wr.cell? ⟨go5, (x5_1 : Int).toNat * 5, none⟩ = some (.int .i64 ((rd_T95 x0_1 x5_1).f0)) := hcc5 0 _ rfl
  have hx5_1 : wr.cell? ⟨go5, (x5_1 : Int).toNat * 5 + 1, none⟩ = some (.int .i64 ((rd_T95 x0_1 x5_1).f1)) := hcc5 1 _ rfl
  have hx5_2 : wr.cell? ⟨go5, (x5_1 : Int).toNat * 5 + 2, none⟩ = some (.int .i64 ((rd_T95 x0_1 x5_1).f2)) := hcc5 2 _ rfl
  have hx5_3 : wr.cell? ⟨go5, (x5_1 : Int).toNat * 5 + 3, none⟩ = some (.int .i64 ((rd_T95 x0_1 x5_1).f3)) := hcc5 3 _ rfl
  have hx5_4 : wr.cell? ⟨go5, (x5_1 : Int).toNat * 5 + 4, none⟩ = some (.int .i64 ((rd_T95 x0_1 x5_1).f4)) := hcc5 4 _ rfl
  have hf5_0 : wr.frozen? ⟨go5, (x5_1 : Int).toNat * 5, none⟩ = false := hfr5 0
  have hf5_1 : wr.frozen? ⟨go5, (x5_1 : Int).toNat * 5 + 1, none⟩ = false := hfr5 1
  have hf5_2 : wr.frozen? ⟨go5, (x5_1 : Int).toNat * 5 + 2, none⟩ = false := hfr5 2
  have hf5_3 : wr.frozen? ⟨go5, (x5_1 : Int).toNat * 5 + 3, none⟩ = false := hfr5 3
  have hf5_4 : wr.frozen? ⟨go5, (x5_1 : Int).toNat * 5 + 4, none⟩ = false := hfr5 4
  clear hcl5 hcc5 hfr5; (try clear hM5)
  replace p5 := eq_true p5
  replace q5 := eq_true q5
  have HX11 := aM (show Kd.R k95 87 wr w0.heap.size (fun k_ => (P0_ k_ ∨ w.heap.size ≤ k_)) (.slice (some ⟨go5, 0, none⟩) x0_1.length co10) x0_1 from HO_0.out)
  obtain ⟨ce11, hcl11, hM11, hcc11, hfr11⟩ := Kd.R_elem HX11.out z95 (x5_1 : Int) (oD ‹_›) (by have h_ : (x5_1 : Int) < ((x0_1.length : Int) : Int) := oD ‹_›; exact h_)
  obtain rfl := k95_openM hM11
  have HP11 := Kd.R_seg HX11.out (x5_1 : Int) (oD ‹_›) (by have h_ : (x5_1 : Int) < ((x0_1.length : Int) : Int) := oD ‹_›; exact h_) (seg := [.int .i64 x1_1]) (j := 0) hcl11 hcc11 (show 1 ≤ 5 from by decide) (x' := (⟨x1_1, (rd_T95 x0_1 x5_1).f1, (rd_T95 x0_1 x5_1).f2, (rd_T95 x0_1 x5_1).f3, (rd_T95 x0_1 x5_1).f4⟩ : S95)) (k95_mkM _ _ _ (⟨x1_1, (rd_T95 x0_1 x5_1).f1, (rd_T95 x0_1 x5_1).f2, (rd_T95 x0_1 x5_1).f3, (rd_T95 x0_1 x5_1).f4⟩ : S95) ) (fun _ hk => hk)
  have hx11_0 := hcc11 0 _ rfl
  (try simp only [show (k95).sz = 5 from rfl, Nat.mul_one, Nat.add_zero] at hx11_0)
  have hf11_0 := hfr11 0
  (try simp only [show (k95).sz = 5 from rfl, Nat.mul_one, Nat.add_zero] at hf11_0)
  clear hcl11 hcc11 hfr11; (try clear hM11)
  go_wp2_with (first | ((with_reducible refine gate_store (t := 3) (p := 16) rfl ?_); refine store_event (t := 3) (p := 16) (v := ?vo_w12) (w1 := (wr.setCell ⟨go5, (x5_1 : Int).toNat * 5, none⟩ (.int .i64 x1_1))) ?hg ?ho ?hn ?hr ?_; (case ho => rfl); (case hg => rfl); (case hn => rfl); (case hr => (go_simp; done)); intro w12 hw; have hg : wr.grownBy w12 (some go5) := (by rw [hw]; exact HP11.2); have hp_ : Kd.R k95 87 w12 w0.heap.size (fun k_ => (P0_ k_ ∨ w.heap.size ≤ k_)) (.slice (some ⟨go5, 0, none⟩) x0_1.length co10) y216 := (by rw [hw, Ny216.out]; exact HP11.1); clear HP11; replace HB := aM ((by rw [hw]; exact below_set (HB.out) GB5.out : Below w0.heap.size w0 w12)); replace HK := aM (Kept.of_grown (S := (fun k_ => P0_ k_)) hg HK.out (fun k_ e_ => (HO_0.out.1 k_ e_))); replace HO_0 := aM (hp_); clear hg hw hp_; have p6 : 0 ≤ (x5_1 : Int) := oD ‹_›; have q6 : (x5_1 : Int) < ((x0_1.length : Int) : Int) := oD ‹_›; obtain ⟨ce6, hcl6, hM6, hcc6, hfr6⟩ := Kd.R_elem HO_0.out z95 (x5_1 : Int) p6 q6; obtain rfl := k95_openM hM6; have hx6_0 : w12.cell? ⟨go5, (x5_1 : Int).toNat * 5, none⟩ = some (.int .i64 ((rd_T95 y216 x5_1).f0)) := hcc6 0 _ rfl; have hx6_1 : w12.cell? ⟨go5, (x5_1 : Int).toNat * 5 + 1, none⟩ = some (.int .i64 ((rd_T95 y216 x5_1).f1)) := hcc6 1 _ rfl; have hx6_2 : w12.cell? ⟨go5, (x5_1 : Int).toNat * 5 + 2, none⟩ = some (.int .i64 ((rd_T95 y216 x5_1).f2)) := hcc6 2 _ rfl; have hx6_3 : w12.cell? ⟨go5, (x5_1 : Int).toNat * 5 + 3, none⟩ = some (.int .i64 ((rd_T95 y216 x5_1).f3)) := hcc6 3 _ rfl; have hx6_4 : w12.cell? ⟨go5, (x5_1 : Int).toNat * 5 + 4, none⟩ = some (.int .i64 ((rd_T95 y216 x5_1).f4)) := hcc6 4 _ rfl; have hf6_0 : w12.frozen? ⟨go5, (x5_1 : Int).toNat * 5, none⟩ = false := hfr6 0; have hf6_1 : w12.frozen? ⟨go5, (x5_1 : Int).toNat * 5 + 1, none⟩ = false := hfr6 1; have hf6_2 : w12.frozen? ⟨go5, (x5_1 : Int).toNat * 5 + 2, none⟩ = false := hfr6 2; have hf6_3 : w12.frozen? ⟨go5, (x5_1 : Int).toNat * 5 + 3, none⟩ = false := hfr6 3; have hf6_4 : w12.frozen? ⟨go5, (x5_1 : Int).toNat * 5 + 4, none⟩ = false := hfr6 4; clear hcl6 hcc6 hfr6; (try clear hM6); replace p6 := eq_true p6; replace q6 := eq_true q6; have HX13 := aM (show Kd.R k95 87 w12 w0.heap.size (fun k_ => (P0_ k_ ∨ w.heap.size ≤ k_)) (.slice (some ⟨go5, 0, none⟩) x0_1.length co10) y216 from HO_0.out); obtain ⟨ce13, hcl13, hM13, hcc13, hfr13⟩ := Kd.R_elem HX13.out z95 (x5_1 : Int) (oD ‹_›) (by have h_ : (x5_1 : Int) < ((x0_1.length : Int) : Int) := oD ‹_›; exact h_); obtain rfl := k95_openM hM13; have HP13 := Kd.R_seg HX13.out (x5_1 : Int) (oD ‹_›) (by have h_ : (x5_1 : Int) < ((x0_1.length : Int) : Int) := oD ‹_›; exact h_) (seg := [.int .i64 (wrap64 (x1_1 + 1))]) (j := 1) hcl13 hcc13 (show 2 ≤ 5 from by decide) (x' := (⟨(rd_T95 y216 x5_1).f0, wrap64 (x1_1 + 1), (rd_T95 y216 x5_1).f2, (rd_T95 y216 x5_1).f3, (rd_T95 y216 x5_1).f4⟩ : S95)) (k95_mkM _ _ _ (⟨(rd_T95 y216 x5_1).f0, wrap64 (x1_1 + 1), (rd_T95 y216 x5_1).f2, (rd_T95 y216 x5_1).f3, (rd_T95 y216 x5_1).f4⟩ : S95) ) (fun _ hk => hk); have hx13_1 := hcc13 1 _ rfl; (try simp only [show (k95).sz = 5 from rfl, Nat.mul_one, Nat.add_zero] at hx13_1); have hf13_1 := hfr13 1; (try simp only [show (k95).sz = 5 from rfl, Nat.mul_one, Nat.add_zero] at hf13_1); clear hcl13 hcc13 hfr13; (try clear hM13)) | ((with_reducible refine gate_store (t := 3) (p := 23) rfl ?_); refine store_event (t := 3) (p := 23) (v := ?vo_w14) (w1 := (w12.setCell ⟨go5, (x5_1 : Int).toNat * 5 + 1, none⟩ (.int .i64 (wrap64 (x1_1 + 1))))) ?hg ?ho ?hn ?hr ?_; (case ho => rfl); (case hg => rfl); (case hn => rfl); (case hr => (go_simp; done)); intro w14 hw; have hg : w12.grownBy w14 (some go5) := (by rw [hw]; exact HP13.2); have hp_ : Kd.R k95 87 w14 w0.heap.size (fun k_ => (P0_ k_ ∨ w.heap.size ≤ k_)) (.slice (some ⟨go5, 0, none⟩) x0_1.length co10) y217 := (by rw [hw, Ny217.out]; exact HP13.1); clear HP13; replace HB := aM ((by rw [hw]; exact below_set (HB.out) GB5.out : Below w0.heap.size w0 w14)); replace HK := aM (Kept.of_grown (S := (fun k_ => P0_ k_)) hg HK.out (fun k_ e_ => (HO_0.out.1 k_ e_))); replace HO_0 := aM (hp_); clear hg hw hp_; have p7 : 0 ≤ (x5_1 : Int) := oD ‹_›; have q7 : (x5_1 : Int) < ((x0_1.length : Int) : Int) := oD ‹_›; obtain ⟨ce7, hcl7, hM7, hcc7, hfr7⟩ := Kd.R_elem HO_0.out z95 (x5_1 : Int) p7 q7; obtain rfl := k95_openM hM7; have hx7_0 : w14.cell? ⟨go5, (x5_1 : Int).toNat * 5, none⟩ = some (.int .i64 ((rd_T95 y217 x5_1).f0)) := hcc7 0 _ rfl; have hx7_1 : w14.cell? ⟨go5, (x5_1 : Int).toNat * 5 + 1, none⟩ = some (.int .i64 ((rd_T95 y217 x5_1).f1)) := hcc7 1 _ rfl; have hx7_2 : w14.cell? ⟨go5, (x5_1 : Int).toNat * 5 + 2, none⟩ = some (.int .i64 ((rd_T95 y217 x5_1).f2)) := hcc7 2 _ rfl; have hx7_3 : w14.cell? ⟨go5, (x5_1 : Int).toNat * 5 + 3, none⟩ = some (.int .i64 ((rd_T95 y217 x5_1).f3)) := hcc7 3 _ rfl; have hx7_4 : w14.cell? ⟨go5, (x5_1 : Int).toNat * 5 + 4, none⟩ = some (.int .i64 ((rd_T95 y217 x5_1).f4)) := hcc7 4 _ rfl; have hf7_0 : w14.frozen? ⟨go5, (x5_1 : Int).toNat * 5, none⟩ = false := hfr7 0; have hf7_1 : w14.frozen? ⟨go5, (x5_1 : Int).toNat * 5 + 1, none⟩ = false := hfr7 1; have hf7_2 : w14.frozen? ⟨go5, (x5_1 : Int).toNat * 5 + 2, none⟩ = false := hfr7 2; have hf7_3 : w14.frozen? ⟨go5, (x5_1 : Int).toNat * 5 + 3, none⟩ = false := hfr7 3; have hf7_4 : w14.frozen? ⟨go5, (x5_1 : Int).toNat * 5 + 4, none⟩ = false := hfr7 4; clear hcl7 hcc7 hfr7; (try clear hM7); replace p7 := eq_true p7; replace q7 := eq_true q7; have HX15 := aM (show Kd.R k95 87 w14 w0.heap.size (fun k_ => (P0_ k_ ∨ w.heap.size ≤ k_)) (.slice (some ⟨go5, 0, none⟩) x0_1.length co10) y217 from HO_0.out); obtain ⟨ce15, hcl15, hM15, hcc15, hfr15⟩ := Kd.R_elem HX15.out z95 (x5_1 : Int) (oD ‹_›) (by have h_ : (x5_1 : Int) < ((x0_1.length : Int) : Int) := oD ‹_›; exact h_); obtain rfl := k95_openM hM15; have HP15 := Kd.R_seg HX15.out (x5_1 : Int) (oD ‹_›) (by have h_ : (x5_1 : Int) < ((x0_1.length : Int) : Int) := oD ‹_›; exact h_) (seg := [.int .i64 (wrap64 ((wrap64 (x1_1 + 1)) + 1))]) (j := 2) hcl15 hcc15 (show 3 ≤ 5 from by decide) (x' := (⟨(rd_T95 y217 x5_1).f0, (rd_T95 y217 x5_1).f1, wrap64 ((wrap64 (x1_1 + 1)) + 1), (rd_T95 y217 x5_1).f3, (rd_T95 y217 x5_1).f4⟩ : S95)) (k95_mkM _ _ _ (⟨(rd_T95 y217 x5_1).f0, (rd_T95 y217 x5_1).f1, wrap64 ((wrap64 (x1_1 + 1)) + 1), (rd_T95 y217 x5_1).f3, (rd_T95 y217 x5_1).f4⟩ : S95) ) (fun _ hk => hk); have hx15_2 := hcc15 2 _ rfl; (try simp only [show (k95).sz = 5 from rfl, Nat.mul_one, Nat.add_zero] at hx15_2); have hf15_2 := hfr15 2; (try simp only [show (k95).sz = 5 from rfl, Nat.mul_one, Nat.add_zero] at hf15_2); clear hcl15 hcc15 hfr15; (try clear hM15)) | ((with_reducible refine gate_store (t := 3) (p := 30) rfl ?_); refine store_event (t := 3) (p := 30) (v := ?vo_w16) (w1 := (w14.setCell ⟨go5, (x5_1 : Int).toNat * 5 + 2, none⟩ (.int .i64 (wrap64 ((wrap64 (x1_1 + 1)) + 1))))) ?hg ?ho ?hn ?hr ?_; (case ho => rfl); (case hg => rfl); (case hn => rfl); (case hr => (go_simp; done)); intro w16 hw; have hg : w14.grownBy w16 (some go5) := (by rw [hw]; exact HP15.2); have hp_ : Kd.R k95 87 w16 w0.heap.size (fun k_ => (P0_ k_ ∨ w.heap.size ≤ k_)) (.slice (some ⟨go5, 0, none⟩) x0_1.length co10) y218 := (by rw [hw, Ny218.out]; exact HP15.1); clear HP15; replace HB := aM ((by rw [hw]; exact below_set (HB.out) GB5.out : Below w0.heap.size w0 w16)); replace HK := aM (Kept.of_grown (S := (fun k_ => P0_ k_)) hg HK.out (fun k_ e_ => (HO_0.out.1 k_ e_))); replace HO_0 := aM (hp_); clear hg hw hp_; have p8 : 0 ≤ (x5_1 : Int) := oD ‹_›; have q8 : (x5_1 : Int) < ((x0_1.length : Int) : Int) := oD ‹_›; obtain ⟨ce8, hcl8, hM8, hcc8, hfr8⟩ := Kd.R_elem HO_0.out z95 (x5_1 : Int) p8 q8; obtain rfl := k95_openM hM8; have hx8_0 : w16.cell? ⟨go5, (x5_1 : Int).toNat * 5, none⟩ = some (.int .i64 ((rd_T95 y218 x5_1).f0)) := hcc8 0 _ rfl; have hx8_1 : w16.cell? ⟨go5, (x5_1 : Int).toNat * 5 + 1, none⟩ = some (.int .i64 ((rd_T95 y218 x5_1).f1)) := hcc8 1 _ rfl; have hx8_2 : w16.cell? ⟨go5, (x5_1 : Int).toNat * 5 + 2, none⟩ = some (.int .i64 ((rd_T95 y218 x5_1).f2)) := hcc8 2 _ rfl; have hx8_3 : w16.cell? ⟨go5, (x5_1 : Int).toNat * 5 + 3, none⟩ = some (.int .i64 ((rd_T95 y218 x5_1).f3)) := hcc8 3 _ rfl; have hx8_4 : w16.cell? ⟨go5, (x5_1 : Int).toNat * 5 + 4, none⟩ = some (.int .i64 ((rd_T95 y218 x5_1).f4)) := hcc8 4 _ rfl; have hf8_0 : w16.frozen? ⟨go5, (x5_1 : Int).toNat * 5, none⟩ = false := hfr8 0; have hf8_1 : w16.frozen? ⟨go5, (x5_1 : Int).toNat * 5 + 1, none⟩ = false := hfr8 1; have hf8_2 : w16.frozen? ⟨go5, (x5_1 : Int).toNat * 5 + 2, none⟩ = false := hfr8 2; have hf8_3 : w16.frozen? ⟨go5, (x5_1 : Int).toNat * 5 + 3, none⟩ = false := hfr8 3; have hf8_4 : w16.frozen? ⟨go5, (x5_1 : Int).toNat * 5 + 4, none⟩ = false := hfr8 4; clear hcl8 hcc8 hfr8; (try clear hM8); replace p8 := eq_true p8; replace q8 := eq_true q8; have HX17 := aM (show Kd.R k95 87 w16 w0.heap.size (fun k_ => (P0_ k_ ∨ w.heap.size ≤ k_)) (.slice (some ⟨go5, 0, none⟩) x0_1.length co10) y218 from HO_0.out); obtain ⟨ce17, hcl17, hM17, hcc17, hfr17⟩ := Kd.R_elem HX17.out z95 (x5_1 : Int) (oD ‹_›) (by have h_ : (x5_1 : Int) < ((x0_1.length : Int) : Int) := oD ‹_›; exact h_); obtain rfl := k95_openM hM17; have HP17 := Kd.R_seg HX17.out (x5_1 : Int) (oD ‹_›) (by have h_ : (x5_1 : Int) < ((x0_1.length : Int) : Int) := oD ‹_›; exact h_) (seg := [.int .i64 (wrap64 ((wrap64 ((wrap64 (x1_1 + 1)) + 1)) + 1))]) (j := 3) hcl17 hcc17 (show 4 ≤ 5 from by decide) (x' := (⟨(rd_T95 y218 x5_1).f0, (rd_T95 y218 x5_1).f1, (rd_T95 y218 x5_1).f2, wrap64 ((wrap64 ((wrap64 (x1_1 + 1)) + 1)) + 1), (rd_T95 y218 x5_1).f4⟩ : S95)) (k95_mkM _ _ _ (⟨(rd_T95 y218 x5_1).f0, (rd_T95 y218 x5_1).f1, (rd_T95 y218 x5_1).f2, wrap64 ((wrap64 ((wrap64 (x1_1 + 1)) + 1)) + 1), (rd_T95 y218 x5_1).f4⟩ : S95) ) (fun _ hk => hk); have hx17_3 := hcc17 3 _ rfl; (try simp only [show (k95).sz = 5 from rfl, Nat.mul_one, Nat.add_zero] at hx17_3); have hf17_3 := hfr17 3; (try simp only [show (k95).sz = 5 from rfl, Nat.mul_one, Nat.add_zero] at hf17_3); clear hcl17 hcc17 hfr17; (try clear hM17)) | ((with_reducible refine gate_store (t := 3) (p := 37) rfl ?_); refine store_event (t := 3) (p := 37) (v := ?vo_w18) (w1 := (w16.setCell ⟨go5, (x5_1 : Int).toNat * 5 + 3, none⟩ (.int .i64 (wrap64 ((wrap64 ((wrap64 (x1_1 + 1)) + 1)) + 1))))) ?hg ?ho ?hn ?hr ?_; (case ho => rfl); (case hg => rfl); (case hn => rfl); (case hr => (go_simp; done)); intro w18 hw; have hg : w16.grownBy w18 (some go5) := (by rw [hw]; exact HP17.2); have hp_ : Kd.R k95 87 w18 w0.heap.size (fun k_ => (P0_ k_ ∨ w.heap.size ≤ k_)) (.slice (some ⟨go5, 0, none⟩) x0_1.length co10) y219 := (by rw [hw, Ny219.out]; exact HP17.1); clear HP17; replace HB := aM ((by rw [hw]; exact below_set (HB.out) GB5.out : Below w0.heap.size w0 w18)); replace HK := aM (Kept.of_grown (S := (fun k_ => P0_ k_)) hg HK.out (fun k_ e_ => (HO_0.out.1 k_ e_))); replace HO_0 := aM (hp_); clear hg hw hp_; have p9 : 0 ≤ (x5_1 : Int) := oD ‹_›; have q9 : (x5_1 : Int) < ((x0_1.length : Int) : Int) := oD ‹_›; obtain ⟨ce9, hcl9, hM9, hcc9, hfr9⟩ := Kd.R_elem HO_0.out z95 (x5_1 : Int) p9 q9; obtain rfl := k95_openM hM9; have hx9_0 : w18.cell? ⟨go5, (x5_1 : Int).toNat * 5, none⟩ = some (.int .i64 ((rd_T95 y219 x5_1).f0)) := hcc9 0 _ rfl; have hx9_1 : w18.cell? ⟨go5, (x5_1 : Int).toNat * 5 + 1, none⟩ = some (.int .i64 ((rd_T95 y219 x5_1).f1)) := hcc9 1 _ rfl; have hx9_2 : w18.cell? ⟨go5, (x5_1 : Int).toNat * 5 + 2, none⟩ = some (.int .i64 ((rd_T95 y219 x5_1).f2)) := hcc9 2 _ rfl; have hx9_3 : w18.cell? ⟨go5, (x5_1 : Int).toNat * 5 + 3, none⟩ = some (.int .i64 ((rd_T95 y219 x5_1).f3)) := hcc9 3 _ rfl; have hx9_4 : w18.cell? ⟨go5, (x5_1 : Int).toNat * 5 + 4, none⟩ = some (.int .i64 ((rd_T95 y219 x5_1).f4)) := hcc9 4 _ rfl; have hf9_0 : w18.frozen? ⟨go5, (x5_1 : Int).toNat * 5, none⟩ = false := hfr9 0; have hf9_1 : w18.frozen? ⟨go5, (x5_1 : Int).toNat * 5 + 1, none⟩ = false := hfr9 1; have hf9_2 : w18.frozen? ⟨go5, (x5_1 : Int).toNat * 5 + 2, none⟩ = false := hfr9 2; have hf9_3 : w18.frozen? ⟨go5, (x5_1 : Int).toNat * 5 + 3, none⟩ = false := hfr9 3; have hf9_4 : w18.frozen? ⟨go5, (x5_1 : Int).toNat * 5 + 4, none⟩ = false := hfr9 4; clear hcl9 hcc9 hfr9; (try clear hM9); replace p9 := eq_true p9; replace q9 := eq_true q9; have HX19 := aM (show Kd.R k95 87 w18 w0.heap.size (fun k_ => (P0_ k_ ∨ w.heap.size ≤ k_)) (.slice (some ⟨go5, 0, none⟩) x0_1.length co10) y219 from HO_0.out); obtain ⟨ce19, hcl19, hM19, hcc19, hfr19⟩ := Kd.R_elem HX19.out z95 (x5_1 : Int) (oD ‹_›) (by have h_ : (x5_1 : Int) < ((x0_1.length : Int) : Int) := oD ‹_›; exact h_); obtain rfl := k95_openM hM19; have HP19 := Kd.R_seg HX19.out (x5_1 : Int) (oD ‹_›) (by have h_ : (x5_1 : Int) < ((x0_1.length : Int) : Int) := oD ‹_›; exact h_) (seg := [.int .i64 (wrap64 ((wrap64 ((wrap64 ((wrap64 (x1_1 + 1)) + 1)) + 1)) + 1))]) (j := 4) hcl19 hcc19 (show 5 ≤ 5 from by decide) (x' := (⟨(rd_T95 y219 x5_1).f0, (rd_T95 y219 x5_1).f1, (rd_T95 y219 x5_1).f2, (rd_T95 y219 x5_1).f3, wrap64 ((wrap64 ((wrap64 ((wrap64 (x1_1 + 1)) + 1)) + 1)) + 1)⟩ : S95)) (k95_mkM _ _ _ (⟨(rd_T95 y219 x5_1).f0, (rd_T95 y219 x5_1).f1, (rd_T95 y219 x5_1).f2, (rd_T95 y219 x5_1).f3, wrap64 ((wrap64 ((wrap64 ((wrap64 (x1_1 + 1)) + 1)) + 1)) + 1)⟩ : S95) ) (fun _ hk => hk); have hx19_4 := hcc19 4 _ rfl; (try simp only [show (k95).sz = 5 from rfl, Nat.mul_one, Nat.add_zero] at hx19_4); have hf19_4 := hfr19 4; (try simp only [show (k95).sz = 5 from rfl, Nat.mul_one, Nat.add_zero] at hf19_4); clear hcl19 hcc19 hfr19; (try clear hM19)) | ((with_reducible refine gate_store (t := 3) (p := 44) rfl ?_); refine store_event (t := 3) (p := 44) (v := ?vo_w20) (w1 := (w18.setCell ⟨go5, (x5_1 : Int).toNat * 5 + 4, none⟩ (.int .i64 (wrap64 ((wrap64 ((wrap64 ((wrap64 (x1_1 + 1)) + 1)) + 1)) + 1))))) ?hg ?ho ?hn ?hr ?_; (case ho => rfl); (case hg => rfl); (case hn => rfl); (case hr => (go_simp; done)); intro w20 hw; have hg : w18.grownBy w20 (some go5) := (by rw [hw]; exact HP19.2); have hp_ : Kd.R k95 87 w20 w0.heap.size (fun k_ => (P0_ k_ ∨ w.heap.size ≤ k_)) (.slice (some ⟨go5, 0, none⟩) x0_1.length co10) y220 := (by rw [hw, Ny220.out]; exact HP19.1); clear HP19; replace HB := aM ((by rw [hw]; exact below_set (HB.out) GB5.out : Below w0.heap.size w0 w20)); replace HK := aM (Kept.of_grown (S := (fun k_ => P0_ k_)) hg HK.out (fun k_ e_ => (HO_0.out.1 k_ e_))); replace HO_0 := aM (hp_); clear hg hw hp_))
  go_roundg k1
  case measure => have := HK1.out; omega
  case rel => exact ⟨(y220), (wrap64 ((wrap64 ((wrap64 ((wrap64 ((wrap64 (x1_1 + 1)) + 1)) + 1)) + 1)) + 1)), (wrap64 (x5_1 + 1)), (by rfl), (by rfl), H', ⟨by have := HK1.out; omega⟩, ⟨by exact HO_0.out⟩, ⟨by repeat ((with_reducible exact HK.out))⟩, ⟨by repeat ((with_reducible exact HB.out))⟩⟩
def laws_markFilterS.l0 : Nat → List (S97) → Int → Int → Option (Int × (List (S97)))
 | 0, _, _, _ => none
 | k + 1, x0, x1, x5 => if x5 < (x0.length : Int) then (if 0 ≤ x5 then ((some (x0.set (x5 : Int).toNat (⟨x1, (rd_T97 x0 x5).f1, (rd_T97 x0 x5).f2, (rd_T97 x0 x5).f3⟩ : S97) : List (S97))).bind fun y221 => ((some (y221.set (x5 : Int).toNat (⟨(rd_T97 y221 x5).f0, wrap64 (x1 + 1), (rd_T97 y221 x5).f2, (rd_T97 y221 x5).f3⟩ : S97) : List (S97))).bind fun y222 => ((some (y222.set (x5 : Int).toNat (⟨(rd_T97 y222 x5).f0, (rd_T97 y222 x5).f1, wrap64 ((wrap64 (x1 + 1)) + 1), (rd_T97 y222 x5).f3⟩ : S97) : List (S97))).bind fun y223 => (laws_markFilterS.l0 k (y223.set (x5 : Int).toNat (⟨(rd_T97 y223 x5).f0, (rd_T97 y223 x5).f1, (rd_T97 y223 x5).f2, wrap64 ((wrap64 ((wrap64 (x1 + 1)) + 1)) + 1)⟩ : S97)) (wrap64 ((wrap64 ((wrap64 ((wrap64 (x1 + 1)) + 1)) + 1)) + 1)) (wrap64 (x5 + 1)))))) else (none)) else (some (x1, x0))
def laws_markFilterS.f (k : Nat) (l0 : List (S97)) (a1 : Int) : Option (Int × (List (S97))) := laws_markFilterS.l0 k l0 a1 0
theorem laws_markFilterS.calls (k : Nat) (P0_ : Nat → Prop) (u9000_ : Value) (l0 : List (S97)) (a1 : Int) (r1 : Int) (r2 : List (S97)) (w0 w : World) (hB : Below w0.heap.size w0 w) (ho0 : Kd.R k97 91 w w0.heap.size P0_ u9000_ l0) (h : laws_markFilterS.f k l0 a1 = some (r1, r2)) :
  Calls Tryz.prog 48 #[u9000_, .int .i64 a1] w fun e w' => e = .returned (.int .i64 r1) ∧ Kd.R k97 91 w' w0.heap.size (fun k_ => (P0_ k_ ∨ w.heap.size ≤ k_)) u9000_ r2 ∧ Below w0.heap.size w0 w' ∧ Kept w w' (fun k_ => P0_ k_) := by
 have HO0 := aM (show Kd.R k97 91 w w0.heap.size (fun k_ => (P0_ k_ ∨ w.heap.size ≤ k_)) u9000_ l0 from Kd.R_mono ho0 (fun k_ hk => (.inl hk)))
 have HK := aM (Kept.refl w (fun k_ => P0_ k_))
 have HW0 := aM hB.size
 have HB := aM hB
 clear hB
 have H : (laws_markFilterS.l0 k l0 a1 0) = some (r1, r2) := h
 clear h
 have H' := aM H
 clear H
 go_enter Tryz.func48, Tryz.ntmps48
 go_wp2
 go_loopg [1, 5] k (fun kq v1 v5 w' => ∃ (x0_1 : List (S97)) (x1_1 : Int) (x5_1 : Int), v1 = .int .i64 x1_1 ∧ v5 = .int .i64 x5_1 ∧ Aside0 (laws_markFilterS.l0 kq x0_1 x1_1 x5_1 = some (r1, r2)) ∧ Aside0 (kq ≤ k) ∧ Aside0 (Kd.R k97 91 w' w0.heap.size (fun k_ => (P0_ k_ ∨ w.heap.size ≤ k_)) u9000_ x0_1) ∧ Aside0 (Kept w w' (fun k_ => P0_ k_)) ∧ Aside0 (Below w0.heap.size w0 w'))
 case atStart => exact ⟨(l0), (a1), (0), (by rfl), (by rfl), H', ⟨Nat.le_refl _⟩, ⟨by exact HO0.out⟩, ⟨by repeat ((with_reducible exact HK.out))⟩, ⟨by repeat ((with_reducible exact HB.out))⟩⟩
 clear H'
 obtain ⟨x0_1, x1_1, x5_1, rfl, rfl, HA, HK1, HO_0, HK, HB⟩ := hrel
 cases gk with
 | zero => exact absurd HA.out (by simp [laws_markFilterS.l0])
 | succ k1 =>
  have H := HA.out
  clear HA
  simp only [laws_markFilterS.l0] at H
  by_cases c3 : x5_1 < (x0_1.length : Int)
  rotate_left
  ·rw [if_neg c3] at H
   have c3b0 : decide (x5_1 < (x0_1.length : Int)) = false := decide_eq_false c3
   clear c3
   simp only [Option.some.injEq, Prod.mk.injEq] at H
   obtain ⟨rfl, rfl⟩ := H
   obtain ⟨Ao18, co18, eo18⟩ := Kd.R_slice HO_0.out
   subst eo18
   go_wp2
   go_ret
   exact ⟨by rfl, by exact HO_0.out, by repeat ((with_reducible exact HB.out)), by repeat ((with_reducible exact HK.out))⟩
  rw [if_pos c3] at H
  have c3b0 : decide (x5_1 < (x0_1.length : Int)) = true := decide_eq_true c3
  clear c3
  by_cases c4 : 0 ≤ x5_1
  rotate_left
  ·rw [if_neg c4] at H
   exact absurd H (by simp)
  rw [if_pos c4] at H
  have c4b0 : decide (0 ≤ x5_1) = true := decide_eq_true c4
  clear c4
  obtain ⟨y221, hy221⟩ : ∃ y_ : List (S97), y_ = (x0_1.set (x5_1 : Int).toNat (⟨x1_1, (rd_T97 x0_1 x5_1).f1, (rd_T97 x0_1 x5_1).f2, (rd_T97 x0_1 x5_1).f3⟩ : S97)) := ⟨_, rfl⟩
  replace H : ((some (y221.set (x5_1 : Int).toNat (⟨(rd_T97 y221 x5_1).f0, wrap64 (x1_1 + 1), (rd_T97 y221 x5_1).f2, (rd_T97 y221 x5_1).f3⟩ : S97) : List (S97))).bind fun y222 => ((some (y222.set (x5_1 : Int).toNat (⟨(rd_T97 y222 x5_1).f0, (rd_T97 y222 x5_1).f1, wrap64 ((wrap64 (x1_1 + 1)) + 1), (rd_T97 y222 x5_1).f3⟩ : S97) : List (S97))).bind fun y223 => (laws_markFilterS.l0 k1 (y223.set (x5_1 : Int).toNat (⟨(rd_T97 y223 x5_1).f0, (rd_T97 y223 x5_1).f1, (rd_T97 y223 x5_1).f2, wrap64 ((wrap64 ((wrap64 (x1_1 + 1)) + 1)) + 1)⟩ : S97)) (wrap64 ((wrap64 ((wrap64 ((wrap64 (x1_1 + 1)) + 1)) + 1)) + 1)) (wrap64 (x5_1 + 1))))) = some (r1, r2) := by (have H2_ := (Option.bind_some _ _).symm.trans H; rw [hy221]; with_reducible exact H2_)
  have Ny221 := aM hy221
  clear hy221
  obtain ⟨y222, hy222⟩ : ∃ y_ : List (S97), y_ = (y221.set (x5_1 : Int).toNat (⟨(rd_T97 y221 x5_1).f0, wrap64 (x1_1 + 1), (rd_T97 y221 x5_1).f2, (rd_T97 y221 x5_1).f3⟩ : S97)) := ⟨_, rfl⟩
  replace H : ((some (y222.set (x5_1 : Int).toNat (⟨(rd_T97 y222 x5_1).f0, (rd_T97 y222 x5_1).f1, wrap64 ((wrap64 (x1_1 + 1)) + 1), (rd_T97 y222 x5_1).f3⟩ : S97) : List (S97))).bind fun y223 => (laws_markFilterS.l0 k1 (y223.set (x5_1 : Int).toNat (⟨(rd_T97 y223 x5_1).f0, (rd_T97 y223 x5_1).f1, (rd_T97 y223 x5_1).f2, wrap64 ((wrap64 ((wrap64 (x1_1 + 1)) + 1)) + 1)⟩ : S97)) (wrap64 ((wrap64 ((wrap64 ((wrap64 (x1_1 + 1)) + 1)) + 1)) + 1)) (wrap64 (x5_1 + 1)))) = some (r1, r2) := by (have H2_ := (Option.bind_some _ _).symm.trans H; rw [hy222]; with_reducible exact H2_)
  have Ny222 := aM hy222
  clear hy222
  obtain ⟨y223, hy223⟩ : ∃ y_ : List (S97), y_ = (y222.set (x5_1 : Int).toNat (⟨(rd_T97 y222 x5_1).f0, (rd_T97 y222 x5_1).f1, wrap64 ((wrap64 (x1_1 + 1)) + 1), (rd_T97 y222 x5_1).f3⟩ : S97)) := ⟨_, rfl⟩
  replace H : (laws_markFilterS.l0 k1 (y223.set (x5_1 : Int).toNat (⟨(rd_T97 y223 x5_1).f0, (rd_T97 y223 x5_1).f1, (rd_T97 y223 x5_1).f2, wrap64 ((wrap64 ((wrap64 (x1_1 + 1)) + 1)) + 1)⟩ : S97)) (wrap64 ((wrap64 ((wrap64 ((wrap64 (x1_1 + 1)) + 1)) + 1)) + 1)) (wrap64 (x5_1 + 1))) = some (r1, r2) := by (have H2_ := (Option.bind_some _ _).symm.trans H; rw [hy223]; with_reducible exact H2_)
  have Ny223 := aM hy223
  clear hy223
  obtain ⟨y224, hy224⟩ : ∃ y_ : List (S97), y_ = (y223.set (x5_1 : Int).toNat (⟨(rd_T97 y223 x5_1).f0, (rd_T97 y223 x5_1).f1, (rd_T97 y223 x5_1).f2, wrap64 ((wrap64 ((wrap64 (x1_1 + 1)) + 1)) + 1)⟩ : S97)) := ⟨_, rfl⟩
  replace H : (laws_markFilterS.l0 k1 y224 (wrap64 ((wrap64 ((wrap64 ((wrap64 (x1_1 + 1)) + 1)) + 1)) + 1)) (wrap64 (x5_1 + 1))) = some (r1, r2) := by (rw [hy224]; with_reducible exact H)
  have Ny224 := aM hy224
  clear hy224
  have H' := aM H
  clear H
  obtain ⟨Ao9, co9, eo9⟩ := Kd.R_slice HO_0.out
  subst eo9
  have p5 : 0 ≤ (x5_1 : Int) := oD ‹_›
  have q5 : (x5_1 : Int) < ((x0_1.length : Int) : Int) := oD ‹_›
  obtain ⟨go5, co5, eo5, gb5, gl5, cl5, HG5⟩ := Kd.R_form HO_0.out (by omega)
  (cases eo5)
  have GB5 := aM gb5
  have GG5 := aM HG5
  clear gb5 gl5 HG5
  have HMgo5 := aM (show (P0_ go5 ∨ w.heap.size ≤ go5) from (HO_0.out.1 _ rfl))
  obtain ⟨ce5, hcl5, hM5, hcc5, hfr5⟩ := Kd.R_elem HO_0.out z97 (x5_1 : Int) p5 q5
  obtain rfl := k97_openM hM5
  have hx5_0 : wr.cell? ⟨go5, (x5_1 : Int).toNat * 4, none⟩ = some (.int .i64 ((rd_T97 x0_1 x5_1).f0)) := hcc5 0 _ rfl
  have hx5_1 : wr.cell? ⟨go5, (x5_1 : Int).toNat * 4 + 1, none⟩ = some (.int .i64 ((rd_T97 x0_1 x5_1).f1)) := hcc5 1 _ rfl
  have hx5_2 : wr.cell? ⟨go5, (x5_1 : Int).toNat * 4 + 2, none⟩ = some (.int .i64 ((rd_T97 x0_1 x5_1).f2)) := hcc5 2 _ rfl
  have hx5_3 : wr.cell? ⟨go5, (x5_1 : Int).toNat * 4 + 3, none⟩ = some (.int .i64 ((rd_T97 x0_1 x5_1).f3)) := hcc5 3 _ rfl
  have hf5_0 : wr.frozen? ⟨go5, (x5_1 : Int).toNat * 4, none⟩ = false := hfr5 0
  have hf5_1 : wr.frozen? ⟨go5, (x5_1 : Int).toNat * 4 + 1, none⟩ = false := hfr5 1
  have hf5_2 : wr.frozen? ⟨go5, (x5_1 : Int).toNat * 4 + 2, none⟩ = false := hfr5 2
  have hf5_3 : wr.frozen? ⟨go5, (x5_1 : Int).toNat * 4 + 3, none⟩ = false := hfr5 3
  clear hcl5 hcc5 hfr5; (try clear hM5)
  replace p5 := eq_true p5
  replace q5 := eq_true q5
  have HX10 := aM (show Kd.R k97 91 wr w0.heap.size (fun k_ => (P0_ k_ ∨ w.heap.size ≤ k_)) (.slice (some ⟨go5, 0, none⟩) x0_1.length co9) x0_1 from HO_0.out)
  obtain ⟨ce10, hcl10, hM10, hcc10, hfr10⟩ := Kd.R_elem HX10.out z97 (x5_1 : Int) (oD ‹_›) (by have h_ : (x5_1 : Int) < ((x0_1.length : Int) : Int) := oD ‹_›; exact h_)
  obtain rfl := k97_openM hM10
  have HP10 := Kd.R_seg HX10.out (x5_1 : Int) (oD ‹_›) (by have h_ : (x5_1 : Int) < ((x0_1.length : Int) : Int) := oD ‹_›; exact h_) (seg := [.int .i64 x1_1]) (j := 0) hcl10 hcc10 (show 1 ≤ 4 from by decide) (x' := (⟨x1_1, (rd_T97 x0_1 x5_1).f1, (rd_T97 x0_1 x5_1).f2, (rd_T97 x0_1 x5_1).f3⟩ : S97)) (k97_mkM _ _ _ (⟨x1_1, (rd_T97 x0_1 x5_1).f1, (rd_T97 x0_1 x5_1).f2, (rd_T97 x0_1 x5_1).f3⟩ : S97) ) (fun _ hk => hk)
  have hx10_0 := hcc10 0 _ rfl
  (try simp only [show (k97).sz = 4 from rfl, Nat.mul_one, Nat.add_zero] at hx10_0)
  have hf10_0 := hfr10 0
  (try simp only [show (k97).sz = 4 from rfl, Nat.mul_one, Nat.add_zero] at hf10_0)
  clear hcl10 hcc10 hfr10; (try clear hM10)
  go_wp2_with (first | ((with_reducible refine gate_store (t := 3) (p := 16) rfl ?_); refine store_event (t := 3) (p := 16) (v := ?vo_w11) (w1 := (wr.setCell ⟨go5, (x5_1 : Int).toNat * 4, none⟩ (.int .i64 x1_1))) ?hg ?ho ?hn ?hr ?_; (case ho => rfl); (case hg => rfl); (case hn => rfl); (case hr => (go_simp; done)); intro w11 hw; have hg : wr.grownBy w11 (some go5) := (by rw [hw]; exact HP10.2); have hp_ : Kd.R k97 91 w11 w0.heap.size (fun k_ => (P0_ k_ ∨ w.heap.size ≤ k_)) (.slice (some ⟨go5, 0, none⟩) x0_1.length co9) y221 := (by rw [hw, Ny221.out]; exact HP10.1); clear HP10; replace HB := aM ((by rw [hw]; exact below_set (HB.out) GB5.out : Below w0.heap.size w0 w11)); replace HK := aM (Kept.of_grown (S := (fun k_ => P0_ k_)) hg HK.out (fun k_ e_ => (HO_0.out.1 k_ e_))); replace HO_0 := aM (hp_); clear hg hw hp_; have p6 : 0 ≤ (x5_1 : Int) := oD ‹_›; have q6 : (x5_1 : Int) < ((x0_1.length : Int) : Int) := oD ‹_›; obtain ⟨ce6, hcl6, hM6, hcc6, hfr6⟩ := Kd.R_elem HO_0.out z97 (x5_1 : Int) p6 q6; obtain rfl := k97_openM hM6; have hx6_0 : w11.cell? ⟨go5, (x5_1 : Int).toNat * 4, none⟩ = some (.int .i64 ((rd_T97 y221 x5_1).f0)) := hcc6 0 _ rfl; have hx6_1 : w11.cell? ⟨go5, (x5_1 : Int).toNat * 4 + 1, none⟩ = some (.int .i64 ((rd_T97 y221 x5_1).f1)) := hcc6 1 _ rfl; have hx6_2 : w11.cell? ⟨go5, (x5_1 : Int).toNat * 4 + 2, none⟩ = some (.int .i64 ((rd_T97 y221 x5_1).f2)) := hcc6 2 _ rfl; have hx6_3 : w11.cell? ⟨go5, (x5_1 : Int).toNat * 4 + 3, none⟩ = some (.int .i64 ((rd_T97 y221 x5_1).f3)) := hcc6 3 _ rfl; have hf6_0 : w11.frozen? ⟨go5, (x5_1 : Int).toNat * 4, none⟩ = false := hfr6 0; have hf6_1 : w11.frozen? ⟨go5, (x5_1 : Int).toNat * 4 + 1, none⟩ = false := hfr6 1; have hf6_2 : w11.frozen? ⟨go5, (x5_1 : Int).toNat * 4 + 2, none⟩ = false := hfr6 2; have hf6_3 : w11.frozen? ⟨go5, (x5_1 : Int).toNat * 4 + 3, none⟩ = false := hfr6 3; clear hcl6 hcc6 hfr6; (try clear hM6); replace p6 := eq_true p6; replace q6 := eq_true q6; have HX12 := aM (show Kd.R k97 91 w11 w0.heap.size (fun k_ => (P0_ k_ ∨ w.heap.size ≤ k_)) (.slice (some ⟨go5, 0, none⟩) x0_1.length co9) y221 from HO_0.out); obtain ⟨ce12, hcl12, hM12, hcc12, hfr12⟩ := Kd.R_elem HX12.out z97 (x5_1 : Int) (oD ‹_›) (by have h_ : (x5_1 : Int) < ((x0_1.length : Int) : Int) := oD ‹_›; exact h_); obtain rfl := k97_openM hM12; have HP12 := Kd.R_seg HX12.out (x5_1 : Int) (oD ‹_›) (by have h_ : (x5_1 : Int) < ((x0_1.length : Int) : Int) := oD ‹_›; exact h_) (seg := [.int .i64 (wrap64 (x1_1 + 1))]) (j := 1) hcl12 hcc12 (show 2 ≤ 4 from by decide) (x' := (⟨(rd_T97 y221 x5_1).f0, wrap64 (x1_1 + 1), (rd_T97 y221 x5_1).f2, (rd_T97 y221 x5_1).f3⟩ : S97)) (k97_mkM _ _ _ (⟨(rd_T97 y221 x5_1).f0, wrap64 (x1_1 + 1), (rd_T97 y221 x5_1).f2, (rd_T97 y221 x5_1).f3⟩ : S97) ) (fun _ hk => hk); have hx12_1 := hcc12 1 _ rfl; (try simp only [show (k97).sz = 4 from rfl, Nat.mul_one, Nat.add_zero] at hx12_1); have hf12_1 := hfr12 1; (try simp only [show (k97).sz = 4 from rfl, Nat.mul_one, Nat.add_zero] at hf12_1); clear hcl12 hcc12 hfr12; (try clear hM12)) | ((with_reducible refine gate_store (t := 3) (p := 23) rfl ?_); refine store_event (t := 3) (p := 23) (v := ?vo_w13) (w1 := (w11.setCell ⟨go5, (x5_1 : Int).toNat * 4 + 1, none⟩ (.int .i64 (wrap64 (x1_1 + 1))))) ?hg ?ho ?hn ?hr ?_; (case ho => rfl); (case hg => rfl); (case hn => rfl); (case hr => (go_simp; done)); intro w13 hw; have hg : w11.grownBy w13 (some go5) := (by rw [hw]; exact HP12.2); have hp_ : Kd.R k97 91 w13 w0.heap.size (fun k_ => (P0_ k_ ∨ w.heap.size ≤ k_)) (.slice (some ⟨go5, 0, none⟩) x0_1.length co9) y222 := (by rw [hw, Ny222.out]; exact HP12.1); clear HP12; replace HB := aM ((by rw [hw]; exact below_set (HB.out) GB5.out : Below w0.heap.size w0 w13)); replace HK := aM (Kept.of_grown (S := (fun k_ => P0_ k_)) hg HK.out (fun k_ e_ => (HO_0.out.1 k_ e_))); replace HO_0 := aM (hp_); clear hg hw hp_; have p7 : 0 ≤ (x5_1 : Int) := oD ‹_›; have q7 : (x5_1 : Int) < ((x0_1.length : Int) : Int) := oD ‹_›; obtain ⟨ce7, hcl7, hM7, hcc7, hfr7⟩ := Kd.R_elem HO_0.out z97 (x5_1 : Int) p7 q7; obtain rfl := k97_openM hM7; have hx7_0 : w13.cell? ⟨go5, (x5_1 : Int).toNat * 4, none⟩ = some (.int .i64 ((rd_T97 y222 x5_1).f0)) := hcc7 0 _ rfl; have hx7_1 : w13.cell? ⟨go5, (x5_1 : Int).toNat * 4 + 1, none⟩ = some (.int .i64 ((rd_T97 y222 x5_1).f1)) := hcc7 1 _ rfl; have hx7_2 : w13.cell? ⟨go5, (x5_1 : Int).toNat * 4 + 2, none⟩ = some (.int .i64 ((rd_T97 y222 x5_1).f2)) := hcc7 2 _ rfl; have hx7_3 : w13.cell? ⟨go5, (x5_1 : Int).toNat * 4 + 3, none⟩ = some (.int .i64 ((rd_T97 y222 x5_1).f3)) := hcc7 3 _ rfl; have hf7_0 : w13.frozen? ⟨go5, (x5_1 : Int).toNat * 4, none⟩ = false := hfr7 0; have hf7_1 : w13.frozen? ⟨go5, (x5_1 : Int).toNat * 4 + 1, none⟩ = false := hfr7 1; have hf7_2 : w13.frozen? ⟨go5, (x5_1 : Int).toNat * 4 + 2, none⟩ = false := hfr7 2; have hf7_3 : w13.frozen? ⟨go5, (x5_1 : Int).toNat * 4 + 3, none⟩ = false := hfr7 3; clear hcl7 hcc7 hfr7; (try clear hM7); replace p7 := eq_true p7; replace q7 := eq_true q7; have HX14 := aM (show Kd.R k97 91 w13 w0.heap.size (fun k_ => (P0_ k_ ∨ w.heap.size ≤ k_)) (.slice (some ⟨go5, 0, none⟩) x0_1.length co9) y222 from HO_0.out); obtain ⟨ce14, hcl14, hM14, hcc14, hfr14⟩ := Kd.R_elem HX14.out z97 (x5_1 : Int) (oD ‹_›) (by have h_ : (x5_1 : Int) < ((x0_1.length : Int) : Int) := oD ‹_›; exact h_); obtain rfl := k97_openM hM14; have HP14 := Kd.R_seg HX14.out (x5_1 : Int) (oD ‹_›) (by have h_ : (x5_1 : Int) < ((x0_1.length : Int) : Int) := oD ‹_›; exact h_) (seg := [.int .i64 (wrap64 ((wrap64 (x1_1 + 1)) + 1))]) (j := 2) hcl14 hcc14 (show 3 ≤ 4 from by decide) (x' := (⟨(rd_T97 y222 x5_1).f0, (rd_T97 y222 x5_1).f1, wrap64 ((wrap64 (x1_1 + 1)) + 1), (rd_T97 y222 x5_1).f3⟩ : S97)) (k97_mkM _ _ _ (⟨(rd_T97 y222 x5_1).f0, (rd_T97 y222 x5_1).f1, wrap64 ((wrap64 (x1_1 + 1)) + 1), (rd_T97 y222 x5_1).f3⟩ : S97) ) (fun _ hk => hk); have hx14_2 := hcc14 2 _ rfl; (try simp only [show (k97).sz = 4 from rfl, Nat.mul_one, Nat.add_zero] at hx14_2); have hf14_2 := hfr14 2; (try simp only [show (k97).sz = 4 from rfl, Nat.mul_one, Nat.add_zero] at hf14_2); clear hcl14 hcc14 hfr14; (try clear hM14)) | ((with_reducible refine gate_store (t := 3) (p := 30) rfl ?_); refine store_event (t := 3) (p := 30) (v := ?vo_w15) (w1 := (w13.setCell ⟨go5, (x5_1 : Int).toNat * 4 + 2, none⟩ (.int .i64 (wrap64 ((wrap64 (x1_1 + 1)) + 1))))) ?hg ?ho ?hn ?hr ?_; (case ho => rfl); (case hg => rfl); (case hn => rfl); (case hr => (go_simp; done)); intro w15 hw; have hg : w13.grownBy w15 (some go5) := (by rw [hw]; exact HP14.2); have hp_ : Kd.R k97 91 w15 w0.heap.size (fun k_ => (P0_ k_ ∨ w.heap.size ≤ k_)) (.slice (some ⟨go5, 0, none⟩) x0_1.length co9) y223 := (by rw [hw, Ny223.out]; exact HP14.1); clear HP14; replace HB := aM ((by rw [hw]; exact below_set (HB.out) GB5.out : Below w0.heap.size w0 w15)); replace HK := aM (Kept.of_grown (S := (fun k_ => P0_ k_)) hg HK.out (fun k_ e_ => (HO_0.out.1 k_ e_))); replace HO_0 := aM (hp_); clear hg hw hp_; have p8 : 0 ≤ (x5_1 : Int) := oD ‹_›; have q8 : (x5_1 : Int) < ((x0_1.length : Int) : Int) := oD ‹_›; obtain ⟨ce8, hcl8, hM8, hcc8, hfr8⟩ := Kd.R_elem HO_0.out z97 (x5_1 : Int) p8 q8; obtain rfl := k97_openM hM8; have hx8_0 : w15.cell? ⟨go5, (x5_1 : Int).toNat * 4, none⟩ = some (.int .i64 ((rd_T97 y223 x5_1).f0)) := hcc8 0 _ rfl; have hx8_1 : w15.cell? ⟨go5, (x5_1 : Int).toNat * 4 + 1, none⟩ = some (.int .i64 ((rd_T97 y223 x5_1).f1)) := hcc8 1 _ rfl; have hx8_2 : w15.cell? ⟨go5, (x5_1 : Int).toNat * 4 + 2, none⟩ = some (.int .i64 ((rd_T97 y223 x5_1).f2)) := hcc8 2 _ rfl; have hx8_3 : w15.cell? ⟨go5, (x5_1 : Int).toNat * 4 + 3, none⟩ = some (.int .i64 ((rd_T97 y223 x5_1).f3)) := hcc8 3 _ rfl; have hf8_0 : w15.frozen? ⟨go5, (x5_1 : Int).toNat * 4, none⟩ = false := hfr8 0; have hf8_1 : w15.frozen? ⟨go5, (x5_1 : Int).toNat * 4 + 1, none⟩ = false := hfr8 1; have hf8_2 : w15.frozen? ⟨go5, (x5_1 : Int).toNat * 4 + 2, none⟩ = false := hfr8 2; have hf8_3 : w15.frozen? ⟨go5, (x5_1 : Int).toNat * 4 + 3, none⟩ = false := hfr8 3; clear hcl8 hcc8 hfr8; (try clear hM8); replace p8 := eq_true p8; replace q8 := eq_true q8; have HX16 := aM (show Kd.R k97 91 w15 w0.heap.size (fun k_ => (P0_ k_ ∨ w.heap.size ≤ k_)) (.slice (some ⟨go5, 0, none⟩) x0_1.length co9) y223 from HO_0.out); obtain ⟨ce16, hcl16, hM16, hcc16, hfr16⟩ := Kd.R_elem HX16.out z97 (x5_1 : Int) (oD ‹_›) (by have h_ : (x5_1 : Int) < ((x0_1.length : Int) : Int) := oD ‹_›; exact h_); obtain rfl := k97_openM hM16; have HP16 := Kd.R_seg HX16.out (x5_1 : Int) (oD ‹_›) (by have h_ : (x5_1 : Int) < ((x0_1.length : Int) : Int) := oD ‹_›; exact h_) (seg := [.int .i64 (wrap64 ((wrap64 ((wrap64 (x1_1 + 1)) + 1)) + 1))]) (j := 3) hcl16 hcc16 (show 4 ≤ 4 from by decide) (x' := (⟨(rd_T97 y223 x5_1).f0, (rd_T97 y223 x5_1).f1, (rd_T97 y223 x5_1).f2, wrap64 ((wrap64 ((wrap64 (x1_1 + 1)) + 1)) + 1)⟩ : S97)) (k97_mkM _ _ _ (⟨(rd_T97 y223 x5_1).f0, (rd_T97 y223 x5_1).f1, (rd_T97 y223 x5_1).f2, wrap64 ((wrap64 ((wrap64 (x1_1 + 1)) + 1)) + 1)⟩ : S97) ) (fun _ hk => hk); have hx16_3 := hcc16 3 _ rfl; (try simp only [show (k97).sz = 4 from rfl, Nat.mul_one, Nat.add_zero] at hx16_3); have hf16_3 := hfr16 3; (try simp only [show (k97).sz = 4 from rfl, Nat.mul_one, Nat.add_zero] at hf16_3); clear hcl16 hcc16 hfr16; (try clear hM16)) | ((with_reducible refine gate_store (t := 3) (p := 37) rfl ?_); refine store_event (t := 3) (p := 37) (v := ?vo_w17) (w1 := (w15.setCell ⟨go5, (x5_1 : Int).toNat * 4 + 3, none⟩ (.int .i64 (wrap64 ((wrap64 ((wrap64 (x1_1 + 1)) + 1)) + 1))))) ?hg ?ho ?hn ?hr ?_; (case ho => rfl); (case hg => rfl); (case hn => rfl); (case hr => (go_simp; done)); intro w17 hw; have hg : w15.grownBy w17 (some go5) := (by rw [hw]; exact HP16.2); have hp_ : Kd.R k97 91 w17 w0.heap.size (fun k_ => (P0_ k_ ∨ w.heap.size ≤ k_)) (.slice (some ⟨go5, 0, none⟩) x0_1.length co9) y224 := (by rw [hw, Ny224.out]; exact HP16.1); clear HP16; replace HB := aM ((by rw [hw]; exact below_set (HB.out) GB5.out : Below w0.heap.size w0 w17)); replace HK := aM (Kept.of_grown (S := (fun k_ => P0_ k_)) hg HK.out (fun k_ e_ => (HO_0.out.1 k_ e_))); replace HO_0 := aM (hp_); clear hg hw hp_))
  go_roundg k1
  case measure => have := HK1.out; omega
  case rel => exact ⟨(y224), (wrap64 ((wrap64 ((wrap64 ((wrap64 (x1_1 + 1)) + 1)) + 1)) + 1)), (wrap64 (x5_1 + 1)), (by rfl), (by rfl), H', ⟨by have := HK1.out; omega⟩, ⟨by exact HO_0.out⟩, ⟨by repeat ((with_reducible exact HK.out))⟩, ⟨by repeat ((with_reducible exact HB.out))⟩⟩
def laws_markNet.f (k : Nat) (l0_0 : List ByteArray) (l0_1 : List (S92)) (l0_2 : List Int) (l0_3 : List Int) (l0_4 : List (S95)) (l0_5 : List (S97)) (a1 : Int) : Option (Int × List ByteArray × (List (S92)) × List Int × List Int × (List (S95)) × (List (S97))) := (laws_markStringS.f k l0_0 a1).bind fun bt226 => ((laws_markLinkS.f k l0_1 bt226.1).bind fun bt228 => ((laws_markIntS.f k l0_2 bt228.1).bind fun bt230 => ((laws_markIntS.f k l0_3 bt230.1).bind fun bt232 => ((laws_markImportS.f k l0_4 bt232.1).bind fun bt234 => ((laws_markFilterS.f k l0_5 bt234.1).bind fun bt236 => (some (bt236.1, bt226.2, bt228.2, bt230.2, bt232.2, bt234.2, bt236.2)))))))
theorem laws_markNet.calls (k : Nat) (P0_0_ : Nat → Prop) (u9000_ : Value) (l0_0 : List ByteArray) (P0_1_ : Nat → Prop) (u9001_ : Value) (l0_1 : List (S92)) (P0_2_ : Nat → Prop) (u9002_ : Value) (l0_2 : List Int) (P0_3_ : Nat → Prop) (u9003_ : Value) (l0_3 : List Int) (P0_4_ : Nat → Prop) (u9004_ : Value) (l0_4 : List (S95)) (P0_5_ : Nat → Prop) (u9005_ : Value) (l0_5 : List (S97)) (a1 : Int) (r1 : Int) (r2 : List ByteArray) (r3 : List (S92)) (r4 : List Int) (r5 : List Int) (r6 : List (S95)) (r7 : List (S97)) (w0 w : World) (hB : Below w0.heap.size w0 w) (ho0_0 : Kd.R Kd.string 9 w w0.heap.size P0_0_ u9000_ l0_0) (ho0_1 : Kd.R k92 83 w w0.heap.size P0_1_ u9001_ l0_1) (ho0_2 : Kd.R (Kd.int .i64) 3 w w0.heap.size P0_2_ u9002_ l0_2) (hp0_2_0_3 : ∀ k_, P0_2_ k_ → ¬ P0_3_ k_) (ho0_3 : Kd.R (Kd.int .i64) 3 w w0.heap.size P0_3_ u9003_ l0_3) (hp0_3_0_2 : ∀ k_, P0_3_ k_ → ¬ P0_2_ k_) (ho0_4 : Kd.R k95 87 w w0.heap.size P0_4_ u9004_ l0_4) (ho0_5 : Kd.R k97 91 w w0.heap.size P0_5_ u9005_ l0_5) (h : laws_markNet.f k l0_0 l0_1 l0_2 l0_3 l0_4 l0_5 a1 = some (r1, r2, r3, r4, r5, r6, r7)) :
  Calls Tryz.prog 14 #[.agg #[u9000_, u9001_, u9002_, u9003_, u9004_, u9005_], .int .i64 a1] w fun e w' => e = .returned (.int .i64 r1) ∧ Kd.R Kd.string 9 w' w0.heap.size (fun k_ => ((P0_0_ k_ ∨ P0_1_ k_ ∨ P0_2_ k_ ∨ P0_3_ k_ ∨ P0_4_ k_ ∨ P0_5_ k_) ∨ w.heap.size ≤ k_)) u9000_ r2 ∧ Kd.R k92 83 w' w0.heap.size (fun k_ => ((P0_0_ k_ ∨ P0_1_ k_ ∨ P0_2_ k_ ∨ P0_3_ k_ ∨ P0_4_ k_ ∨ P0_5_ k_) ∨ w.heap.size ≤ k_)) u9001_ r3 ∧ Kd.R (Kd.int .i64) 3 w' w0.heap.size (fun k_ => ((P0_0_ k_ ∨ P0_1_ k_ ∨ P0_2_ k_ ∨ P0_3_ k_ ∨ P0_4_ k_ ∨ P0_5_ k_) ∨ w.heap.size ≤ k_)) u9002_ r4 ∧ Kd.R (Kd.int .i64) 3 w' w0.heap.size (fun k_ => ((P0_0_ k_ ∨ P0_1_ k_ ∨ P0_2_ k_ ∨ P0_3_ k_ ∨ P0_4_ k_ ∨ P0_5_ k_) ∨ w.heap.size ≤ k_)) u9003_ r5 ∧ Kd.R k95 87 w' w0.heap.size (fun k_ => ((P0_0_ k_ ∨ P0_1_ k_ ∨ P0_2_ k_ ∨ P0_3_ k_ ∨ P0_4_ k_ ∨ P0_5_ k_) ∨ w.heap.size ≤ k_)) u9004_ r6 ∧ Kd.R k97 91 w' w0.heap.size (fun k_ => ((P0_0_ k_ ∨ P0_1_ k_ ∨ P0_2_ k_ ∨ P0_3_ k_ ∨ P0_4_ k_ ∨ P0_5_ k_) ∨ w.heap.size ≤ k_)) u9005_ r7 ∧ Below w0.heap.size w0 w' ∧ Kept w w' (fun k_ => P0_0_ k_ ∨ P0_1_ k_ ∨ P0_2_ k_ ∨ P0_3_ k_ ∨ P0_4_ k_ ∨ P0_5_ k_) := by
 have hu38 := Tryz.underlying38
 have HO0_0 := aM (show Kd.R Kd.string 9 w w0.heap.size (fun k_ => ((P0_0_ k_ ∨ P0_1_ k_ ∨ P0_2_ k_ ∨ P0_3_ k_ ∨ P0_4_ k_ ∨ P0_5_ k_) ∨ w.heap.size ≤ k_)) u9000_ l0_0 from Kd.R_mono ho0_0 (fun k_ hk => (.inl (.inl hk))))
 have HO0_1 := aM (show Kd.R k92 83 w w0.heap.size (fun k_ => ((P0_0_ k_ ∨ P0_1_ k_ ∨ P0_2_ k_ ∨ P0_3_ k_ ∨ P0_4_ k_ ∨ P0_5_ k_) ∨ w.heap.size ≤ k_)) u9001_ l0_1 from Kd.R_mono ho0_1 (fun k_ hk => (.inl (.inr (.inl hk)))))
 have HO0_2 := aM (show Kd.R (Kd.int .i64) 3 w w0.heap.size (fun k_ => ((P0_0_ k_ ∨ P0_1_ k_ ∨ P0_2_ k_ ∨ P0_3_ k_ ∨ P0_4_ k_ ∨ P0_5_ k_) ∨ w.heap.size ≤ k_) ∧ some k_ ≠ (u9003_ : Value).ownBlock) u9002_ l0_2 from Kd.R_mono ho0_2 (fun k_ hk => ⟨(.inl (.inr (.inr (.inl hk)))), fun e_ => hp0_2_0_3 k_ hk (ho0_3.1 k_ e_.symm)⟩))
 have HO0_3 := aM (show Kd.R (Kd.int .i64) 3 w w0.heap.size (fun k_ => ((P0_0_ k_ ∨ P0_1_ k_ ∨ P0_2_ k_ ∨ P0_3_ k_ ∨ P0_4_ k_ ∨ P0_5_ k_) ∨ w.heap.size ≤ k_) ∧ some k_ ≠ (u9002_ : Value).ownBlock) u9003_ l0_3 from Kd.R_mono ho0_3 (fun k_ hk => ⟨(.inl (.inr (.inr (.inr (.inl hk))))), fun e_ => hp0_3_0_2 k_ hk (ho0_2.1 k_ e_.symm)⟩))
 have HO0_4 := aM (show Kd.R k95 87 w w0.heap.size (fun k_ => ((P0_0_ k_ ∨ P0_1_ k_ ∨ P0_2_ k_ ∨ P0_3_ k_ ∨ P0_4_ k_ ∨ P0_5_ k_) ∨ w.heap.size ≤ k_)) u9004_ l0_4 from Kd.R_mono ho0_4 (fun k_ hk => (.inl (.inr (.inr (.inr (.inr (.inl hk))))))))
 have HO0_5 := aM (show Kd.R k97 91 w w0.heap.size (fun k_ => ((P0_0_ k_ ∨ P0_1_ k_ ∨ P0_2_ k_ ∨ P0_3_ k_ ∨ P0_4_ k_ ∨ P0_5_ k_) ∨ w.heap.size ≤ k_)) u9005_ l0_5 from Kd.R_mono ho0_5 (fun k_ hk => (.inl (.inr (.inr (.inr (.inr (.inr hk))))))))
 have HK := aM (Kept.refl w (fun k_ => P0_0_ k_ ∨ P0_1_ k_ ∨ P0_2_ k_ ∨ P0_3_ k_ ∨ P0_4_ k_ ∨ P0_5_ k_))
 have HW0 := aM hB.size
 have HB := aM hB
 clear hB
 have H : ((laws_markStringS.f k l0_0 a1).bind fun bt226 => ((laws_markLinkS.f k l0_1 bt226.1).bind fun bt228 => ((laws_markIntS.f k l0_2 bt228.1).bind fun bt230 => ((laws_markIntS.f k l0_3 bt230.1).bind fun bt232 => ((laws_markImportS.f k l0_4 bt232.1).bind fun bt234 => ((laws_markFilterS.f k l0_5 bt234.1).bind fun bt236 => (some (bt236.1, bt226.2, bt228.2, bt230.2, bt232.2, bt234.2, bt236.2)))))))) = some (r1, r2, r3, r4, r5, r6, r7) := h
 clear h
 replace H := bS H
 obtain ⟨⟨t226, t227⟩, A30, H⟩ := H
 replace H : ((laws_markLinkS.f k l0_1 t226).bind fun bt228 => ((laws_markIntS.f k l0_2 bt228.1).bind fun bt230 => ((laws_markIntS.f k l0_3 bt230.1).bind fun bt232 => ((laws_markImportS.f k l0_4 bt232.1).bind fun bt234 => ((laws_markFilterS.f k l0_5 bt234.1).bind fun bt236 => (some (bt236.1, t227, bt228.2, bt230.2, bt232.2, bt234.2, bt236.2))))))) = some (r1, r2, r3, r4, r5, r6, r7) := H
 have A3 := aM A30
 clear A30
 replace H := bS H
 obtain ⟨⟨t228, t229⟩, A40, H⟩ := H
 replace H : ((laws_markIntS.f k l0_2 t228).bind fun bt230 => ((laws_markIntS.f k l0_3 bt230.1).bind fun bt232 => ((laws_markImportS.f k l0_4 bt232.1).bind fun bt234 => ((laws_markFilterS.f k l0_5 bt234.1).bind fun bt236 => (some (bt236.1, t227, t229, bt230.2, bt232.2, bt234.2, bt236.2)))))) = some (r1, r2, r3, r4, r5, r6, r7) := H
 have A4 := aM A40
 clear A40
 replace H := bS H
 obtain ⟨⟨t230, t231⟩, A50, H⟩ := H
 replace H : ((laws_markIntS.f k l0_3 t230).bind fun bt232 => ((laws_markImportS.f k l0_4 bt232.1).bind fun bt234 => ((laws_markFilterS.f k l0_5 bt234.1).bind fun bt236 => (some (bt236.1, t227, t229, t231, bt232.2, bt234.2, bt236.2))))) = some (r1, r2, r3, r4, r5, r6, r7) := H
 have A5 := aM A50
 clear A50
 replace H := bS H
 obtain ⟨⟨t232, t233⟩, A60, H⟩ := H
 replace H : ((laws_markImportS.f k l0_4 t232).bind fun bt234 => ((laws_markFilterS.f k l0_5 bt234.1).bind fun bt236 => (some (bt236.1, t227, t229, t231, t233, bt234.2, bt236.2)))) = some (r1, r2, r3, r4, r5, r6, r7) := H
 have A6 := aM A60
 clear A60
 replace H := bS H
 obtain ⟨⟨t234, t235⟩, A70, H⟩ := H
 replace H : ((laws_markFilterS.f k l0_5 t234).bind fun bt236 => (some (bt236.1, t227, t229, t231, t233, t235, bt236.2))) = some (r1, r2, r3, r4, r5, r6, r7) := H
 have A7 := aM A70
 clear A70
 replace H := bS H
 obtain ⟨⟨t236, t237⟩, A80, H⟩ := H
 replace H : (some (t236, t227, t229, t231, t233, t235, t237)) = some (r1, r2, r3, r4, r5, r6, r7) := H
 have A8 := aM A80
 clear A80
 simp only [Option.some.injEq, Prod.mk.injEq] at H
 obtain ⟨rfl, rfl, rfl, rfl, rfl, rfl, rfl⟩ := H
 obtain ⟨Ao9, co9, eo9⟩ := Kd.R_slice HO0_0.out
 subst eo9
 obtain ⟨Ao10, co10, eo10⟩ := Kd.R_slice HO0_1.out
 subst eo10
 obtain ⟨Ao11, co11, eo11⟩ := Kd.R_slice HO0_2.out
 subst eo11
 obtain ⟨Ao12, co12, eo12⟩ := Kd.R_slice HO0_3.out
 subst eo12
 obtain ⟨Ao13, co13, eo13⟩ := Kd.R_slice HO0_4.out
 subst eo13
 obtain ⟨Ao14, co14, eo14⟩ := Kd.R_slice HO0_5.out
 subst eo14
 go_enter Tryz.func14, Tryz.ntmps14
 go_wp2_with (first | ((with_reducible refine gate_dst (N := 2) rfl ?_); refine box_event rfl (N := 2) rfl (cs := #[.slice Ao9 l0_0.length co9, .slice Ao10 l0_1.length co10, .slice Ao11 l0_2.length co11, .slice Ao12 l0_3.length co12, .slice Ao13 l0_4.length co13, .slice Ao14 l0_5.length co14]) (t := 38) (by go_simp; done) ?_; intro gb225 hg w15 hbox hb; replace HO0_0 := aM (Kd.R_below HO0_0.out hb); replace HO0_1 := aM (Kd.R_below HO0_1.out hb); replace HO0_2 := aM (Kd.R_below HO0_2.out hb); replace HO0_3 := aM (Kd.R_below HO0_3.out hb); replace HO0_4 := aM (Kd.R_below HO0_4.out hb); replace HO0_5 := aM (Kd.R_below HO0_5.out hb); have BK225 := aM (hbox); have GW225 := aM ((by rw [hg]; exact HK.out.1 : w.heap.size ≤ gb225)); replace HK := aM (Kept.below (S := (fun k_ => P0_0_ k_ ∨ P0_1_ k_ ∨ P0_2_ k_ ∨ P0_3_ k_ ∨ P0_4_ k_ ∨ P0_5_ k_)) HK.out hb); have GE225 := aM ((by rw [hg]; exact (below_size HB.out) : w0.heap.size ≤ gb225)); replace HB := aB HB hb; clear hb hbox hg; obtain ⟨hcz16_0, hcz16_1, hcz16_2, hcz16_3, hcz16_4, hcz16_5⟩ := swc6 BK225.out; obtain ⟨hfz16_0, hfz16_1, hfz16_2, hfz16_3, hfz16_4, hfz16_5⟩ := swf6 BK225.out) | (go_at_call 45; (with_reducible refine (laws_markStringS.calls k (fun k_ => some k_ = (.slice Ao9 l0_0.length co9 : Value).ownBlock) (.slice Ao9 l0_0.length co9) l0_0 a1 t226 t227 w0 _ ?side1 ?side2 A3.out).mono ?_); (case side1 => repeat ((with_reducible exact HB.out))); (case side2 => exact Kd.R_tight rfl HO0_0.out); rintro e w17 ⟨rfl, hy0, hb, hkp⟩; replace HO0_1 := aM (Kd.R_mono (ok' := fun k_ => ((P0_0_ k_ ∨ P0_1_ k_ ∨ P0_2_ k_ ∨ P0_3_ k_ ∨ P0_4_ k_ ∨ P0_5_ k_) ∨ w.heap.size ≤ k_)) (Kd.R_keptB ((Kd.R_apart' HO0_1.out (Kd.R_typed HO0_0.out) (by decide))) hkp (fun k_ hk_ hs_ => (hk_.2) hs_)) (fun k_ hk_ => hk_.1.1)); replace HO0_2 := aM (Kd.R_mono (ok' := fun k_ => ((P0_0_ k_ ∨ P0_1_ k_ ∨ P0_2_ k_ ∨ P0_3_ k_ ∨ P0_4_ k_ ∨ P0_5_ k_) ∨ w.heap.size ≤ k_) ∧ some k_ ≠ (.slice Ao12 l0_3.length co12 : Value).ownBlock) (Kd.R_keptB ((Kd.R_apart' HO0_2.out (Kd.R_typed HO0_0.out) (by decide))) hkp (fun k_ hk_ hs_ => (hk_.2) hs_)) (fun k_ hk_ => ⟨hk_.1.1.1, hk_.1.1.2⟩)); replace HO0_3 := aM (Kd.R_mono (ok' := fun k_ => ((P0_0_ k_ ∨ P0_1_ k_ ∨ P0_2_ k_ ∨ P0_3_ k_ ∨ P0_4_ k_ ∨ P0_5_ k_) ∨ w.heap.size ≤ k_) ∧ some k_ ≠ (.slice Ao11 l0_2.length co11 : Value).ownBlock) (Kd.R_keptB ((Kd.R_apart' HO0_3.out (Kd.R_typed HO0_0.out) (by decide))) hkp (fun k_ hk_ hs_ => (hk_.2) hs_)) (fun k_ hk_ => ⟨hk_.1.1.1, hk_.1.1.2⟩)); replace HO0_4 := aM (Kd.R_mono (ok' := fun k_ => ((P0_0_ k_ ∨ P0_1_ k_ ∨ P0_2_ k_ ∨ P0_3_ k_ ∨ P0_4_ k_ ∨ P0_5_ k_) ∨ w.heap.size ≤ k_)) (Kd.R_keptB ((Kd.R_apart' HO0_4.out (Kd.R_typed HO0_0.out) (by decide))) hkp (fun k_ hk_ hs_ => (hk_.2) hs_)) (fun k_ hk_ => hk_.1.1)); replace HO0_5 := aM (Kd.R_mono (ok' := fun k_ => ((P0_0_ k_ ∨ P0_1_ k_ ∨ P0_2_ k_ ∨ P0_3_ k_ ∨ P0_4_ k_ ∨ P0_5_ k_) ∨ w.heap.size ≤ k_)) (Kd.R_keptB ((Kd.R_apart' HO0_5.out (Kd.R_typed HO0_0.out) (by decide))) hkp (fun k_ hk_ hs_ => (hk_.2) hs_)) (fun k_ hk_ => hk_.1.1)); replace BK225 := aM (blk_kept BK225.out hkp (fun hs_ => (fun e_ => (Kd.R_ne HO0_0.out BK225.out (by decide)) e_) hs_)); replace HK := aM (Kept.then_ (S := (fun k_ => P0_0_ k_ ∨ P0_1_ k_ ∨ P0_2_ k_ ∨ P0_3_ k_ ∨ P0_4_ k_ ∨ P0_5_ k_)) HK.out hkp (fun k_ hs_ => (fun e_ => (HO0_0.out.1 k_ e_.symm)) hs_)); replace HO0_0 := aM (Kd.R_reok rfl hy0 (fun k_ e_ => HO0_0.out.1 k_ e_)); replace HB := aM (hb); (try clear hb); (try clear hkp); (try clear hy0); obtain ⟨hcz18_0, hcz18_1, hcz18_2, hcz18_3, hcz18_4, hcz18_5⟩ := swc6 BK225.out; obtain ⟨hfz18_0, hfz18_1, hfz18_2, hfz18_3, hfz18_4, hfz18_5⟩ := swf6 BK225.out) | (go_at_call 46; (with_reducible refine (laws_markLinkS.calls k (fun k_ => some k_ = (.slice Ao10 l0_1.length co10 : Value).ownBlock) (.slice Ao10 l0_1.length co10) l0_1 t226 t228 t229 w0 _ ?side1 ?side2 A4.out).mono ?_); (case side1 => repeat ((with_reducible exact HB.out))); (case side2 => exact Kd.R_tight rfl HO0_1.out); rintro e w19 ⟨rfl, hy0, hb, hkp⟩; replace HO0_0 := aM (Kd.R_mono (ok' := fun k_ => ((P0_0_ k_ ∨ P0_1_ k_ ∨ P0_2_ k_ ∨ P0_3_ k_ ∨ P0_4_ k_ ∨ P0_5_ k_) ∨ w.heap.size ≤ k_)) (Kd.R_keptB ((Kd.R_apart' HO0_0.out (Kd.R_typed HO0_1.out) (by decide))) hkp (fun k_ hk_ hs_ => (hk_.2) hs_)) (fun k_ hk_ => hk_.1.1)); replace HO0_2 := aM (Kd.R_mono (ok' := fun k_ => ((P0_0_ k_ ∨ P0_1_ k_ ∨ P0_2_ k_ ∨ P0_3_ k_ ∨ P0_4_ k_ ∨ P0_5_ k_) ∨ w.heap.size ≤ k_) ∧ some k_ ≠ (.slice Ao12 l0_3.length co12 : Value).ownBlock) (Kd.R_keptB ((Kd.R_apart' HO0_2.out (Kd.R_typed HO0_1.out) (by decide))) hkp (fun k_ hk_ hs_ => (hk_.2) hs_)) (fun k_ hk_ => ⟨hk_.1.1.1, hk_.1.1.2⟩)); replace HO0_3 := aM (Kd.R_mono (ok' := fun k_ => ((P0_0_ k_ ∨ P0_1_ k_ ∨ P0_2_ k_ ∨ P0_3_ k_ ∨ P0_4_ k_ ∨ P0_5_ k_) ∨ w.heap.size ≤ k_) ∧ some k_ ≠ (.slice Ao11 l0_2.length co11 : Value).ownBlock) (Kd.R_keptB ((Kd.R_apart' HO0_3.out (Kd.R_typed HO0_1.out) (by decide))) hkp (fun k_ hk_ hs_ => (hk_.2) hs_)) (fun k_ hk_ => ⟨hk_.1.1.1, hk_.1.1.2⟩)); replace HO0_4 := aM (Kd.R_mono (ok' := fun k_ => ((P0_0_ k_ ∨ P0_1_ k_ ∨ P0_2_ k_ ∨ P0_3_ k_ ∨ P0_4_ k_ ∨ P0_5_ k_) ∨ w.heap.size ≤ k_)) (Kd.R_keptB ((Kd.R_apart' HO0_4.out (Kd.R_typed HO0_1.out) (by decide))) hkp (fun k_ hk_ hs_ => (hk_.2) hs_)) (fun k_ hk_ => hk_.1.1)); replace HO0_5 := aM (Kd.R_mono (ok' := fun k_ => ((P0_0_ k_ ∨ P0_1_ k_ ∨ P0_2_ k_ ∨ P0_3_ k_ ∨ P0_4_ k_ ∨ P0_5_ k_) ∨ w.heap.size ≤ k_)) (Kd.R_keptB ((Kd.R_apart' HO0_5.out (Kd.R_typed HO0_1.out) (by decide))) hkp (fun k_ hk_ hs_ => (hk_.2) hs_)) (fun k_ hk_ => hk_.1.1)); replace BK225 := aM (blk_kept BK225.out hkp (fun hs_ => (fun e_ => (Kd.R_ne HO0_1.out BK225.out (by decide)) e_) hs_)); replace HK := aM (Kept.then_ (S := (fun k_ => P0_0_ k_ ∨ P0_1_ k_ ∨ P0_2_ k_ ∨ P0_3_ k_ ∨ P0_4_ k_ ∨ P0_5_ k_)) HK.out hkp (fun k_ hs_ => (fun e_ => (HO0_1.out.1 k_ e_.symm)) hs_)); replace HO0_1 := aM (Kd.R_reok rfl hy0 (fun k_ e_ => HO0_1.out.1 k_ e_)); replace HB := aM (hb); (try clear hb); (try clear hkp); (try clear hy0); obtain ⟨hcz20_0, hcz20_1, hcz20_2, hcz20_3, hcz20_4, hcz20_5⟩ := swc6 BK225.out; obtain ⟨hfz20_0, hfz20_1, hfz20_2, hfz20_3, hfz20_4, hfz20_5⟩ := swf6 BK225.out) | (go_at_call 15; (with_reducible refine (laws_markIntS.calls k (fun k_ => some k_ = (.slice Ao11 l0_2.length co11 : Value).ownBlock) (.slice Ao11 l0_2.length co11) l0_2 t228 t230 t231 w0 _ ?side1 ?side2 A5.out).mono ?_); (case side1 => repeat ((with_reducible exact HB.out))); (case side2 => exact Kd.R_tight rfl HO0_2.out); rintro e w21 ⟨rfl, hy0, hb, hkp⟩; replace HO0_0 := aM (Kd.R_mono (ok' := fun k_ => ((P0_0_ k_ ∨ P0_1_ k_ ∨ P0_2_ k_ ∨ P0_3_ k_ ∨ P0_4_ k_ ∨ P0_5_ k_) ∨ w.heap.size ≤ k_)) (Kd.R_keptB ((Kd.R_apart' HO0_0.out (Kd.R_typed HO0_2.out) (by decide))) hkp (fun k_ hk_ hs_ => (hk_.2) hs_)) (fun k_ hk_ => hk_.1.1)); replace HO0_1 := aM (Kd.R_mono (ok' := fun k_ => ((P0_0_ k_ ∨ P0_1_ k_ ∨ P0_2_ k_ ∨ P0_3_ k_ ∨ P0_4_ k_ ∨ P0_5_ k_) ∨ w.heap.size ≤ k_)) (Kd.R_keptB ((Kd.R_apart' HO0_1.out (Kd.R_typed HO0_2.out) (by decide))) hkp (fun k_ hk_ hs_ => (hk_.2) hs_)) (fun k_ hk_ => hk_.1.1)); replace HO0_3 := aM (Kd.R_mono (ok' := fun k_ => ((P0_0_ k_ ∨ P0_1_ k_ ∨ P0_2_ k_ ∨ P0_3_ k_ ∨ P0_4_ k_ ∨ P0_5_ k_) ∨ w.heap.size ≤ k_) ∧ some k_ ≠ (.slice Ao11 l0_2.length co11 : Value).ownBlock) (Kd.R_keptB (HO0_3.out) hkp (fun k_ hk_ hs_ => (hk_.2) hs_)) (fun k_ hk_ => ⟨hk_.1.1, hk_.1.2⟩)); replace HO0_4 := aM (Kd.R_mono (ok' := fun k_ => ((P0_0_ k_ ∨ P0_1_ k_ ∨ P0_2_ k_ ∨ P0_3_ k_ ∨ P0_4_ k_ ∨ P0_5_ k_) ∨ w.heap.size ≤ k_)) (Kd.R_keptB ((Kd.R_apart' HO0_4.out (Kd.R_typed HO0_2.out) (by decide))) hkp (fun k_ hk_ hs_ => (hk_.2) hs_)) (fun k_ hk_ => hk_.1.1)); replace HO0_5 := aM (Kd.R_mono (ok' := fun k_ => ((P0_0_ k_ ∨ P0_1_ k_ ∨ P0_2_ k_ ∨ P0_3_ k_ ∨ P0_4_ k_ ∨ P0_5_ k_) ∨ w.heap.size ≤ k_)) (Kd.R_keptB ((Kd.R_apart' HO0_5.out (Kd.R_typed HO0_2.out) (by decide))) hkp (fun k_ hk_ hs_ => (hk_.2) hs_)) (fun k_ hk_ => hk_.1.1)); replace BK225 := aM (blk_kept BK225.out hkp (fun hs_ => (fun e_ => (Kd.R_ne HO0_2.out BK225.out (by decide)) e_) hs_)); replace HK := aM (Kept.then_ (S := (fun k_ => P0_0_ k_ ∨ P0_1_ k_ ∨ P0_2_ k_ ∨ P0_3_ k_ ∨ P0_4_ k_ ∨ P0_5_ k_)) HK.out hkp (fun k_ hs_ => (fun e_ => (HO0_2.out.1 k_ e_.symm).1) hs_)); replace HO0_2 := aM (Kd.R_reok rfl hy0 (fun k_ e_ => HO0_2.out.1 k_ e_)); replace HB := aM (hb); (try clear hb); (try clear hkp); (try clear hy0); obtain ⟨hcz22_0, hcz22_1, hcz22_2, hcz22_3, hcz22_4, hcz22_5⟩ := swc6 BK225.out; obtain ⟨hfz22_0, hfz22_1, hfz22_2, hfz22_3, hfz22_4, hfz22_5⟩ := swf6 BK225.out) | (go_at_call 15; (with_reducible refine (laws_markIntS.calls k (fun k_ => some k_ = (.slice Ao12 l0_3.length co12 : Value).ownBlock) (.slice Ao12 l0_3.length co12) l0_3 t230 t232 t233 w0 _ ?side1 ?side2 A6.out).mono ?_); (case side1 => repeat ((with_reducible exact HB.out))); (case side2 => exact Kd.R_tight rfl HO0_3.out); rintro e w23 ⟨rfl, hy0, hb, hkp⟩; replace HO0_0 := aM (Kd.R_mono (ok' := fun k_ => ((P0_0_ k_ ∨ P0_1_ k_ ∨ P0_2_ k_ ∨ P0_3_ k_ ∨ P0_4_ k_ ∨ P0_5_ k_) ∨ w.heap.size ≤ k_)) (Kd.R_keptB ((Kd.R_apart' HO0_0.out (Kd.R_typed HO0_3.out) (by decide))) hkp (fun k_ hk_ hs_ => (hk_.2) hs_)) (fun k_ hk_ => hk_.1.1)); replace HO0_1 := aM (Kd.R_mono (ok' := fun k_ => ((P0_0_ k_ ∨ P0_1_ k_ ∨ P0_2_ k_ ∨ P0_3_ k_ ∨ P0_4_ k_ ∨ P0_5_ k_) ∨ w.heap.size ≤ k_)) (Kd.R_keptB ((Kd.R_apart' HO0_1.out (Kd.R_typed HO0_3.out) (by decide))) hkp (fun k_ hk_ hs_ => (hk_.2) hs_)) (fun k_ hk_ => hk_.1.1)); replace HO0_2 := aM (Kd.R_mono (ok' := fun k_ => ((P0_0_ k_ ∨ P0_1_ k_ ∨ P0_2_ k_ ∨ P0_3_ k_ ∨ P0_4_ k_ ∨ P0_5_ k_) ∨ w.heap.size ≤ k_) ∧ some k_ ≠ (.slice Ao12 l0_3.length co12 : Value).ownBlock) (Kd.R_keptB (HO0_2.out) hkp (fun k_ hk_ hs_ => (hk_.2) hs_)) (fun k_ hk_ => ⟨hk_.1.1, hk_.1.2⟩)); replace HO0_4 := aM (Kd.R_mono (ok' := fun k_ => ((P0_0_ k_ ∨ P0_1_ k_ ∨ P0_2_ k_ ∨ P0_3_ k_ ∨ P0_4_ k_ ∨ P0_5_ k_) ∨ w.heap.size ≤ k_)) (Kd.R_keptB ((Kd.R_apart' HO0_4.out (Kd.R_typed HO0_3.out) (by decide))) hkp (fun k_ hk_ hs_ => (hk_.2) hs_)) (fun k_ hk_ => hk_.1.1)); replace HO0_5 := aM (Kd.R_mono (ok' := fun k_ => ((P0_0_ k_ ∨ P0_1_ k_ ∨ P0_2_ k_ ∨ P0_3_ k_ ∨ P0_4_ k_ ∨ P0_5_ k_) ∨ w.heap.size ≤ k_)) (Kd.R_keptB ((Kd.R_apart' HO0_5.out (Kd.R_typed HO0_3.out) (by decide))) hkp (fun k_ hk_ hs_ => (hk_.2) hs_)) (fun k_ hk_ => hk_.1.1)); replace BK225 := aM (blk_kept BK225.out hkp (fun hs_ => (fun e_ => (Kd.R_ne HO0_3.out BK225.out (by decide)) e_) hs_)); replace HK := aM (Kept.then_ (S := (fun k_ => P0_0_ k_ ∨ P0_1_ k_ ∨ P0_2_ k_ ∨ P0_3_ k_ ∨ P0_4_ k_ ∨ P0_5_ k_)) HK.out hkp (fun k_ hs_ => (fun e_ => (HO0_3.out.1 k_ e_.symm).1) hs_)); replace HO0_3 := aM (Kd.R_reok rfl hy0 (fun k_ e_ => HO0_3.out.1 k_ e_)); replace HB := aM (hb); (try clear hb); (try clear hkp); (try clear hy0); obtain ⟨hcz24_0, hcz24_1, hcz24_2, hcz24_3, hcz24_4, hcz24_5⟩ := swc6 BK225.out; obtain ⟨hfz24_0, hfz24_1, hfz24_2, hfz24_3, hfz24_4, hfz24_5⟩ := swf6 BK225.out) | (go_at_call 47; (with_reducible refine (laws_markImportS.calls k (fun k_ => some k_ = (.slice Ao13 l0_4.length co13 : Value).ownBlock) (.slice Ao13 l0_4.length co13) l0_4 t232 t234 t235 w0 _ ?side1 ?side2 A7.out).mono ?_); (case side1 => repeat ((with_reducible exact HB.out))); (case side2 => exact Kd.R_tight rfl HO0_4.out); rintro e w25 ⟨rfl, hy0, hb, hkp⟩; replace HO0_0 := aM (Kd.R_mono (ok' := fun k_ => ((P0_0_ k_ ∨ P0_1_ k_ ∨ P0_2_ k_ ∨ P0_3_ k_ ∨ P0_4_ k_ ∨ P0_5_ k_) ∨ w.heap.size ≤ k_)) (Kd.R_keptB ((Kd.R_apart' HO0_0.out (Kd.R_typed HO0_4.out) (by decide))) hkp (fun k_ hk_ hs_ => (hk_.2) hs_)) (fun k_ hk_ => hk_.1.1)); replace HO0_1 := aM (Kd.R_mono (ok' := fun k_ => ((P0_0_ k_ ∨ P0_1_ k_ ∨ P0_2_ k_ ∨ P0_3_ k_ ∨ P0_4_ k_ ∨ P0_5_ k_) ∨ w.heap.size ≤ k_)) (Kd.R_keptB ((Kd.R_apart' HO0_1.out (Kd.R_typed HO0_4.out) (by decide))) hkp (fun k_ hk_ hs_ => (hk_.2) hs_)) (fun k_ hk_ => hk_.1.1)); replace HO0_2 := aM (Kd.R_mono (ok' := fun k_ => ((P0_0_ k_ ∨ P0_1_ k_ ∨ P0_2_ k_ ∨ P0_3_ k_ ∨ P0_4_ k_ ∨ P0_5_ k_) ∨ w.heap.size ≤ k_) ∧ some k_ ≠ (.slice Ao12 l0_3.length co12 : Value).ownBlock) (Kd.R_keptB ((Kd.R_apart' HO0_2.out (Kd.R_typed HO0_4.out) (by decide))) hkp (fun k_ hk_ hs_ => (hk_.2) hs_)) (fun k_ hk_ => ⟨hk_.1.1.1, hk_.1.1.2⟩)); replace HO0_3 := aM (Kd.R_mono (ok' := fun k_ => ((P0_0_ k_ ∨ P0_1_ k_ ∨ P0_2_ k_ ∨ P0_3_ k_ ∨ P0_4_ k_ ∨ P0_5_ k_) ∨ w.heap.size ≤ k_) ∧ some k_ ≠ (.slice Ao11 l0_2.length co11 : Value).ownBlock) (Kd.R_keptB ((Kd.R_apart' HO0_3.out (Kd.R_typed HO0_4.out) (by decide))) hkp (fun k_ hk_ hs_ => (hk_.2) hs_)) (fun k_ hk_ => ⟨hk_.1.1.1, hk_.1.1.2⟩)); replace HO0_5 := aM (Kd.R_mono (ok' := fun k_ => ((P0_0_ k_ ∨ P0_1_ k_ ∨ P0_2_ k_ ∨ P0_3_ k_ ∨ P0_4_ k_ ∨ P0_5_ k_) ∨ w.heap.size ≤ k_)) (Kd.R_keptB ((Kd.R_apart' HO0_5.out (Kd.R_typed HO0_4.out) (by decide))) hkp (fun k_ hk_ hs_ => (hk_.2) hs_)) (fun k_ hk_ => hk_.1.1)); replace BK225 := aM (blk_kept BK225.out hkp (fun hs_ => (fun e_ => (Kd.R_ne HO0_4.out BK225.out (by decide)) e_) hs_)); replace HK := aM (Kept.then_ (S := (fun k_ => P0_0_ k_ ∨ P0_1_ k_ ∨ P0_2_ k_ ∨ P0_3_ k_ ∨ P0_4_ k_ ∨ P0_5_ k_)) HK.out hkp (fun k_ hs_ => (fun e_ => (HO0_4.out.1 k_ e_.symm)) hs_)); replace HO0_4 := aM (Kd.R_reok rfl hy0 (fun k_ e_ => HO0_4.out.1 k_ e_)); replace HB := aM (hb); (try clear hb); (try clear hkp); (try clear hy0); obtain ⟨hcz26_0, hcz26_1, hcz26_2, hcz26_3, hcz26_4, hcz26_5⟩ := swc6 BK225.out; obtain ⟨hfz26_0, hfz26_1, hfz26_2, hfz26_3, hfz26_4, hfz26_5⟩ := swf6 BK225.out) | (go_at_call 48; (with_reducible refine (laws_markFilterS.calls k (fun k_ => some k_ = (.slice Ao14 l0_5.length co14 : Value).ownBlock) (.slice Ao14 l0_5.length co14) l0_5 t234 t236 t237 w0 _ ?side1 ?side2 A8.out).mono ?_); (case side1 => repeat ((with_reducible exact HB.out))); (case side2 => exact Kd.R_tight rfl HO0_5.out); rintro e w27 ⟨rfl, hy0, hb, hkp⟩; replace HO0_0 := aM (Kd.R_mono (ok' := fun k_ => ((P0_0_ k_ ∨ P0_1_ k_ ∨ P0_2_ k_ ∨ P0_3_ k_ ∨ P0_4_ k_ ∨ P0_5_ k_) ∨ w.heap.size ≤ k_)) (Kd.R_keptB ((Kd.R_apart' HO0_0.out (Kd.R_typed HO0_5.out) (by decide))) hkp (fun k_ hk_ hs_ => (hk_.2) hs_)) (fun k_ hk_ => hk_.1.1)); replace HO0_1 := aM (Kd.R_mono (ok' := fun k_ => ((P0_0_ k_ ∨ P0_1_ k_ ∨ P0_2_ k_ ∨ P0_3_ k_ ∨ P0_4_ k_ ∨ P0_5_ k_) ∨ w.heap.size ≤ k_)) (Kd.R_keptB ((Kd.R_apart' HO0_1.out (Kd.R_typed HO0_5.out) (by decide))) hkp (fun k_ hk_ hs_ => (hk_.2) hs_)) (fun k_ hk_ => hk_.1.1)); replace HO0_2 := aM (Kd.R_mono (ok' := fun k_ => ((P0_0_ k_ ∨ P0_1_ k_ ∨ P0_2_ k_ ∨ P0_3_ k_ ∨ P0_4_ k_ ∨ P0_5_ k_) ∨ w.heap.size ≤ k_) ∧ some k_ ≠ (.slice Ao12 l0_3.length co12 : Value).ownBlock) (Kd.R_keptB ((Kd.R_apart' HO0_2.out (Kd.R_typed HO0_5.out) (by decide))) hkp (fun k_ hk_ hs_ => (hk_.2) hs_)) (fun k_ hk_ => ⟨hk_.1.1.1, hk_.1.1.2⟩)); replace HO0_3 := aM (Kd.R_mono (ok' := fun k_ => ((P0_0_ k_ ∨ P0_1_ k_ ∨ P0_2_ k_ ∨ P0_3_ k_ ∨ P0_4_ k_ ∨ P0_5_ k_) ∨ w.heap.size ≤ k_) ∧ some k_ ≠ (.slice Ao11 l0_2.length co11 : Value).ownBlock) (Kd.R_keptB ((Kd.R_apart' HO0_3.out (Kd.R_typed HO0_5.out) (by decide))) hkp (fun k_ hk_ hs_ => (hk_.2) hs_)) (fun k_ hk_ => ⟨hk_.1.1.1, hk_.1.1.2⟩)); replace HO0_4 := aM (Kd.R_mono (ok' := fun k_ => ((P0_0_ k_ ∨ P0_1_ k_ ∨ P0_2_ k_ ∨ P0_3_ k_ ∨ P0_4_ k_ ∨ P0_5_ k_) ∨ w.heap.size ≤ k_)) (Kd.R_keptB ((Kd.R_apart' HO0_4.out (Kd.R_typed HO0_5.out) (by decide))) hkp (fun k_ hk_ hs_ => (hk_.2) hs_)) (fun k_ hk_ => hk_.1.1)); replace BK225 := aM (blk_kept BK225.out hkp (fun hs_ => (fun e_ => (Kd.R_ne HO0_5.out BK225.out (by decide)) e_) hs_)); replace HK := aM (Kept.then_ (S := (fun k_ => P0_0_ k_ ∨ P0_1_ k_ ∨ P0_2_ k_ ∨ P0_3_ k_ ∨ P0_4_ k_ ∨ P0_5_ k_)) HK.out hkp (fun k_ hs_ => (fun e_ => (HO0_5.out.1 k_ e_.symm)) hs_)); replace HO0_5 := aM (Kd.R_reok rfl hy0 (fun k_ e_ => HO0_5.out.1 k_ e_)); replace HB := aM (hb); (try clear hb); (try clear hkp); (try clear hy0)))
 go_ret
 exact ⟨by rfl, by exact HO0_0.out, by exact HO0_1.out, by exact Kd.R_mono HO0_2.out (fun _ hk => hk.1), by exact Kd.R_mono HO0_3.out (fun _ hk => hk.1), by exact HO0_4.out, by exact HO0_5.out, by repeat ((with_reducible exact HB.out)), by repeat ((with_reducible exact HK.out))⟩
def laws_markBoolS.l0 : Nat → List Bool → Int → Int → Option (Int × List Bool)
 | 0, _, _, _ => none
 | k + 1, x0, x1, x5 => if x5 < (x0.length : Int) then (if 0 ≤ x5 then (laws_markBoolS.l0 k (x0.set (x5 : Int).toNat ((Int.tmod x1 3) == 0)) (wrap64 (x1 + 1)) (wrap64 (x5 + 1))) else (none)) else (some (x1, x0))
def laws_markBoolS.f (k : Nat) (l0 : List Bool) (a1 : Int) : Option (Int × List Bool) := laws_markBoolS.l0 k l0 a1 0
theorem laws_markBoolS.calls (k : Nat) (P0_ : Nat → Prop) (u9000_ : Value) (l0 : List Bool) (a1 : Int) (r1 : Int) (r2 : List Bool) (w0 w : World) (hB : Below w0.heap.size w0 w) (ho0 : Kd.R Kd.bool 4 w w0.heap.size P0_ u9000_ l0) (h : laws_markBoolS.f k l0 a1 = some (r1, r2)) :
  Calls Tryz.prog 16 #[u9000_, .int .i64 a1] w fun e w' => e = .returned (.int .i64 r1) ∧ Kd.R Kd.bool 4 w' w0.heap.size (fun k_ => (P0_ k_ ∨ w.heap.size ≤ k_)) u9000_ r2 ∧ Below w0.heap.size w0 w' ∧ Kept w w' (fun k_ => P0_ k_) := by
 have HO0 := aM (show Kd.R Kd.bool 4 w w0.heap.size (fun k_ => (P0_ k_ ∨ w.heap.size ≤ k_)) u9000_ l0 from Kd.R_mono ho0 (fun k_ hk => (.inl hk)))
 have HK := aM (Kept.refl w (fun k_ => P0_ k_))
 have HW0 := aM hB.size
 have HB := aM hB
 clear hB
 have H : (laws_markBoolS.l0 k l0 a1 0) = some (r1, r2) := h
 clear h
 have H' := aM H
 clear H
 go_enter Tryz.func16, Tryz.ntmps16
 go_wp2
 go_loopg [1, 5] k (fun kq v1 v5 w' => ∃ (x0_1 : List Bool) (x1_1 : Int) (x5_1 : Int), v1 = .int .i64 x1_1 ∧ v5 = .int .i64 x5_1 ∧ Aside0 (laws_markBoolS.l0 kq x0_1 x1_1 x5_1 = some (r1, r2)) ∧ Aside0 (kq ≤ k) ∧ Aside0 (Kd.R Kd.bool 4 w' w0.heap.size (fun k_ => (P0_ k_ ∨ w.heap.size ≤ k_)) u9000_ x0_1) ∧ Aside0 (Kept w w' (fun k_ => P0_ k_)) ∧ Aside0 (Below w0.heap.size w0 w'))
 case atStart => exact ⟨(l0), (a1), (0), (by rfl), (by rfl), H', ⟨Nat.le_refl _⟩, ⟨by exact HO0.out⟩, ⟨by repeat ((with_reducible exact HK.out))⟩, ⟨by repeat ((with_reducible exact HB.out))⟩⟩
 clear H'
 obtain ⟨x0_1, x1_1, x5_1, rfl, rfl, HA, HK1, HO_0, HK, HB⟩ := hrel
 cases gk with
 | zero => exact absurd HA.out (by simp [laws_markBoolS.l0])
 | succ k1 =>
  have H := HA.out
  clear HA
  simp only [laws_markBoolS.l0] at H
  by_cases c3 : x5_1 < (x0_1.length : Int)
  rotate_left
  ·rw [if_neg c3] at H
   have c3b0 : decide (x5_1 < (x0_1.length : Int)) = false := decide_eq_false c3
   clear c3
   simp only [Option.some.injEq, Prod.mk.injEq] at H
   obtain ⟨rfl, rfl⟩ := H
   obtain ⟨Ao9, co9, eo9⟩ := Kd.R_slice HO_0.out
   subst eo9
   go_wp2
   go_ret
   exact ⟨by rfl, by exact HO_0.out, by repeat ((with_reducible exact HB.out)), by repeat ((with_reducible exact HK.out))⟩
  rw [if_pos c3] at H
  have c3b0 : decide (x5_1 < (x0_1.length : Int)) = true := decide_eq_true c3
  clear c3
  by_cases c4 : 0 ≤ x5_1
  rotate_left
  ·rw [if_neg c4] at H
   exact absurd H (by simp)
  rw [if_pos c4] at H
  have c4b0 : decide (0 ≤ x5_1) = true := decide_eq_true c4
  clear c4
  obtain ⟨y238, hy238⟩ : ∃ y_ : List Bool, y_ = (x0_1.set (x5_1 : Int).toNat ((Int.tmod x1_1 3) == 0)) := ⟨_, rfl⟩
  replace H : (laws_markBoolS.l0 k1 y238 (wrap64 (x1_1 + 1)) (wrap64 (x5_1 + 1))) = some (r1, r2) := by (rw [hy238]; with_reducible exact H)
  have Ny238 := aM hy238
  clear hy238
  have H' := aM H
  clear H
  obtain ⟨Ao6, co6, eo6⟩ := Kd.R_slice HO_0.out
  subst eo6
  have p5 : 0 ≤ (x5_1 : Int) := oD ‹_›
  have q5 : (x5_1 : Int) < ((x0_1.length : Int) : Int) := oD ‹_›
  obtain ⟨go5, co5, eo5, gb5, gl5, cl5, HG5⟩ := Kd.R_form HO_0.out (by omega)
  (cases eo5)
  have GB5 := aM gb5
  have GG5 := aM HG5
  clear gb5 gl5 HG5
  have HMgo5 := aM (show (P0_ go5 ∨ w.heap.size ≤ go5) from (HO_0.out.1 _ rfl))
  obtain ⟨hx5_0, hf5_0⟩ := Kd.R_celln false HO_0.out (x5_1 : Int) p5 q5
  replace p5 := eq_true p5
  replace q5 := eq_true q5
  have HP7 := Kd.R_putg HO_0.out (x5_1 : Int) ((Int.tmod x1_1 3) == 0)
  go_wp2_with (((with_reducible refine gate_store (t := 4) (p := 17) rfl ?_); refine store_event (t := 4) (p := 17) (v := ?vo_w8) (w1 := (wr.setCell ⟨go5, (x5_1 : Int).toNat, none⟩ (.bool ((Int.tmod x1_1 3) == 0)))) ?hg ?ho ?hn ?hr ?_; (case ho => rfl); (case hg => rfl); (case hn => rfl); (case hr => (go_simp; done)); intro w8 hw; have hg : wr.grownBy w8 (some go5) := (by rw [hw]; exact HP7.2); have hp_ : Kd.R Kd.bool 4 w8 w0.heap.size (fun k_ => (P0_ k_ ∨ w.heap.size ≤ k_)) (.slice (some ⟨go5, 0, none⟩) x0_1.length co6) y238 := (by rw [hw, Ny238.out]; exact HP7.1); clear HP7; replace HB := aM ((by rw [hw]; exact below_set (HB.out) GB5.out : Below w0.heap.size w0 w8)); replace HK := aM (Kept.of_grown (S := (fun k_ => P0_ k_)) hg HK.out (fun k_ e_ => (HO_0.out.1 k_ e_))); replace HO_0 := aM (hp_); clear hg hw hp_))
  go_roundg k1
  case measure => have := HK1.out; omega
  case rel => exact ⟨(y238), (wrap64 (x1_1 + 1)), (wrap64 (x5_1 + 1)), (by rfl), (by rfl), H', ⟨by have := HK1.out; omega⟩, ⟨by exact HO_0.out⟩, ⟨by repeat ((with_reducible exact HK.out))⟩, ⟨by repeat ((with_reducible exact HB.out))⟩⟩
def laws_markRouteS.l0 : Nat → List (S80) → Int → Int → Option (Int × (List (S80)))
 | 0, _, _, _ => none
 | k + 1, x0, x1, x5 => if x5 < (x0.length : Int) then (if 0 ≤ x5 then ((some (x0.set (x5 : Int).toNat (⟨x1, (rd_T80 x0 x5).f1, (rd_T80 x0 x5).f2, (rd_T80 x0 x5).f3⟩ : S80) : List (S80))).bind fun y239 => ((some (y239.set (x5 : Int).toNat (⟨(rd_T80 y239 x5).f0, wrap64 (x1 + 1), (rd_T80 y239 x5).f2, (rd_T80 y239 x5).f3⟩ : S80) : List (S80))).bind fun y240 => ((some (y240.set (x5 : Int).toNat (⟨(rd_T80 y240 x5).f0, (rd_T80 y240 x5).f1, wrap64 ((wrap64 (x1 + 1)) + 1), (rd_T80 y240 x5).f3⟩ : S80) : List (S80))).bind fun y241 => (laws_markRouteS.l0 k (y241.set (x5 : Int).toNat (⟨(rd_T80 y241 x5).f0, (rd_T80 y241 x5).f1, (rd_T80 y241 x5).f2, ((Int.tmod (wrap64 ((wrap64 ((wrap64 (x1 + 1)) + 1)) + 1)) 3) == 0)⟩ : S80)) (wrap64 ((wrap64 ((wrap64 ((wrap64 (x1 + 1)) + 1)) + 1)) + 1)) (wrap64 (x5 + 1)))))) else (none)) else (some (x1, x0))
def laws_markRouteS.f (k : Nat) (l0 : List (S80)) (a1 : Int) : Option (Int × (List (S80))) := laws_markRouteS.l0 k l0 a1 0
theorem laws_markRouteS.calls (k : Nat) (P0_ : Nat → Prop) (u9000_ : Value) (l0 : List (S80)) (a1 : Int) (r1 : Int) (r2 : List (S80)) (w0 w : World) (hB : Below w0.heap.size w0 w) (ho0 : Kd.R k80 58 w w0.heap.size P0_ u9000_ l0) (h : laws_markRouteS.f k l0 a1 = some (r1, r2)) :
  Calls Tryz.prog 17 #[u9000_, .int .i64 a1] w fun e w' => e = .returned (.int .i64 r1) ∧ Kd.R k80 58 w' w0.heap.size (fun k_ => (P0_ k_ ∨ w.heap.size ≤ k_)) u9000_ r2 ∧ Below w0.heap.size w0 w' ∧ Kept w w' (fun k_ => P0_ k_) := by
 have HO0 := aM (show Kd.R k80 58 w w0.heap.size (fun k_ => (P0_ k_ ∨ w.heap.size ≤ k_)) u9000_ l0 from Kd.R_mono ho0 (fun k_ hk => (.inl hk)))
 have HK := aM (Kept.refl w (fun k_ => P0_ k_))
 have HW0 := aM hB.size
 have HB := aM hB
 clear hB
 have H : (laws_markRouteS.l0 k l0 a1 0) = some (r1, r2) := h
 clear h
 have H' := aM H
 clear H
 go_enter Tryz.func17, Tryz.ntmps17
 go_wp2
 go_loopg [1, 5] k (fun kq v1 v5 w' => ∃ (x0_1 : List (S80)) (x1_1 : Int) (x5_1 : Int), v1 = .int .i64 x1_1 ∧ v5 = .int .i64 x5_1 ∧ Aside0 (laws_markRouteS.l0 kq x0_1 x1_1 x5_1 = some (r1, r2)) ∧ Aside0 (kq ≤ k) ∧ Aside0 (Kd.R k80 58 w' w0.heap.size (fun k_ => (P0_ k_ ∨ w.heap.size ≤ k_)) u9000_ x0_1) ∧ Aside0 (Kept w w' (fun k_ => P0_ k_)) ∧ Aside0 (Below w0.heap.size w0 w'))
 case atStart => exact ⟨(l0), (a1), (0), (by rfl), (by rfl), H', ⟨Nat.le_refl _⟩, ⟨by exact HO0.out⟩, ⟨by repeat ((with_reducible exact HK.out))⟩, ⟨by repeat ((with_reducible exact HB.out))⟩⟩
 clear H'
 obtain ⟨x0_1, x1_1, x5_1, rfl, rfl, HA, HK1, HO_0, HK, HB⟩ := hrel
 cases gk with
 | zero => exact absurd HA.out (by simp [laws_markRouteS.l0])
 | succ k1 =>
  have H := HA.out
  clear HA
  simp only [laws_markRouteS.l0] at H
  by_cases c3 : x5_1 < (x0_1.length : Int)
  rotate_left
  ·rw [if_neg c3] at H
   have c3b0 : decide (x5_1 < (x0_1.length : Int)) = false := decide_eq_false c3
   clear c3
   simp only [Option.some.injEq, Prod.mk.injEq] at H
   obtain ⟨rfl, rfl⟩ := H
   obtain ⟨Ao18, co18, eo18⟩ := Kd.R_slice HO_0.out
   subst eo18
   go_wp2
   go_ret
   exact ⟨by rfl, by exact HO_0.out, by repeat ((with_reducible exact HB.out)), by repeat ((with_reducible exact HK.out))⟩
  rw [if_pos c3] at H
  have c3b0 : decide (x5_1 < (x0_1.length : Int)) = true := decide_eq_true c3
  clear c3
  by_cases c4 : 0 ≤ x5_1
  rotate_left
  ·rw [if_neg c4] at H
   exact absurd H (by simp)
  rw [if_pos c4] at H
  have c4b0 : decide (0 ≤ x5_1) = true := decide_eq_true c4
  clear c4
  obtain ⟨y239, hy239⟩ : ∃ y_ : List (S80), y_ = (x0_1.set (x5_1 : Int).toNat (⟨x1_1, (rd_T80 x0_1 x5_1).f1, (rd_T80 x0_1 x5_1).f2, (rd_T80 x0_1 x5_1).f3⟩ : S80)) := ⟨_, rfl⟩
  replace H : ((some (y239.set (x5_1 : Int).toNat (⟨(rd_T80 y239 x5_1).f0, wrap64 (x1_1 + 1), (rd_T80 y239 x5_1).f2, (rd_T80 y239 x5_1).f3⟩ : S80) : List (S80))).bind fun y240 => ((some (y240.set (x5_1 : Int).toNat (⟨(rd_T80 y240 x5_1).f0, (rd_T80 y240 x5_1).f1, wrap64 ((wrap64 (x1_1 + 1)) + 1), (rd_T80 y240 x5_1).f3⟩ : S80) : List (S80))).bind fun y241 => (laws_markRouteS.l0 k1 (y241.set (x5_1 : Int).toNat (⟨(rd_T80 y241 x5_1).f0, (rd_T80 y241 x5_1).f1, (rd_T80 y241 x5_1).f2, ((Int.tmod (wrap64 ((wrap64 ((wrap64 (x1_1 + 1)) + 1)) + 1)) 3) == 0)⟩ : S80)) (wrap64 ((wrap64 ((wrap64 ((wrap64 (x1_1 + 1)) + 1)) + 1)) + 1)) (wrap64 (x5_1 + 1))))) = some (r1, r2) := by (have H2_ := (Option.bind_some _ _).symm.trans H; rw [hy239]; with_reducible exact H2_)
  have Ny239 := aM hy239
  clear hy239
  obtain ⟨y240, hy240⟩ : ∃ y_ : List (S80), y_ = (y239.set (x5_1 : Int).toNat (⟨(rd_T80 y239 x5_1).f0, wrap64 (x1_1 + 1), (rd_T80 y239 x5_1).f2, (rd_T80 y239 x5_1).f3⟩ : S80)) := ⟨_, rfl⟩
  replace H : ((some (y240.set (x5_1 : Int).toNat (⟨(rd_T80 y240 x5_1).f0, (rd_T80 y240 x5_1).f1, wrap64 ((wrap64 (x1_1 + 1)) + 1), (rd_T80 y240 x5_1).f3⟩ : S80) : List (S80))).bind fun y241 => (laws_markRouteS.l0 k1 (y241.set (x5_1 : Int).toNat (⟨(rd_T80 y241 x5_1).f0, (rd_T80 y241 x5_1).f1, (rd_T80 y241 x5_1).f2, ((Int.tmod (wrap64 ((wrap64 ((wrap64 (x1_1 + 1)) + 1)) + 1)) 3) == 0)⟩ : S80)) (wrap64 ((wrap64 ((wrap64 ((wrap64 (x1_1 + 1)) + 1)) + 1)) + 1)) (wrap64 (x5_1 + 1)))) = some (r1, r2) := by (have H2_ := (Option.bind_some _ _).symm.trans H; rw [hy240]; with_reducible exact H2_)
  have Ny240 := aM hy240
  clear hy240
  obtain ⟨y241, hy241⟩ : ∃ y_ : List (S80), y_ = (y240.set (x5_1 : Int).toNat (⟨(rd_T80 y240 x5_1).f0, (rd_T80 y240 x5_1).f1, wrap64 ((wrap64 (x1_1 + 1)) + 1), (rd_T80 y240 x5_1).f3⟩ : S80)) := ⟨_, rfl⟩
  replace H : (laws_markRouteS.l0 k1 (y241.set (x5_1 : Int).toNat (⟨(rd_T80 y241 x5_1).f0, (rd_T80 y241 x5_1).f1, (rd_T80 y241 x5_1).f2, ((Int.tmod (wrap64 ((wrap64 ((wrap64 (x1_1 + 1)) + 1)) + 1)) 3) == 0)⟩ : S80)) (wrap64 ((wrap64 ((wrap64 ((wrap64 (x1_1 + 1)) + 1)) + 1)) + 1)) (wrap64 (x5_1 + 1))) = some (r1, r2) := by (have H2_ := (Option.bind_some _ _).symm.trans H; rw [hy241]; with_reducible exact H2_)
  have Ny241 := aM hy241
  clear hy241
  obtain ⟨y242, hy242⟩ : ∃ y_ : List (S80), y_ = (y241.set (x5_1 : Int).toNat (⟨(rd_T80 y241 x5_1).f0, (rd_T80 y241 x5_1).f1, (rd_T80 y241 x5_1).f2, ((Int.tmod (wrap64 ((wrap64 ((wrap64 (x1_1 + 1)) + 1)) + 1)) 3) == 0)⟩ : S80)) := ⟨_, rfl⟩
  replace H : (laws_markRouteS.l0 k1 y242 (wrap64 ((wrap64 ((wrap64 ((wrap64 (x1_1 + 1)) + 1)) + 1)) + 1)) (wrap64 (x5_1 + 1))) = some (r1, r2) := by (rw [hy242]; with_reducible exact H)
  have Ny242 := aM hy242
  clear hy242
  have H' := aM H
  clear H
  obtain ⟨Ao9, co9, eo9⟩ := Kd.R_slice HO_0.out
  subst eo9
  have p5 : 0 ≤ (x5_1 : Int) := oD ‹_›
  have q5 : (x5_1 : Int) < ((x0_1.length : Int) : Int) := oD ‹_›
  obtain ⟨go5, co5, eo5, gb5, gl5, cl5, HG5⟩ := Kd.R_form HO_0.out (by omega)
  (cases eo5)
  have GB5 := aM gb5
  have GG5 := aM HG5
  clear gb5 gl5 HG5
  have HMgo5 := aM (show (P0_ go5 ∨ w.heap.size ≤ go5) from (HO_0.out.1 _ rfl))
  obtain ⟨ce5, hcl5, hM5, hcc5, hfr5⟩ := Kd.R_elem HO_0.out z80 (x5_1 : Int) p5 q5
  obtain rfl := k80_openM hM5
  have hx5_0 : wr.cell? ⟨go5, (x5_1 : Int).toNat * 4, none⟩ = some (.int .i64 ((rd_T80 x0_1 x5_1).f0)) := hcc5 0 _ rfl
  have hx5_1 : wr.cell? ⟨go5, (x5_1 : Int).toNat * 4 + 1, none⟩ = some (.int .i64 ((rd_T80 x0_1 x5_1).f1)) := hcc5 1 _ rfl
  have hx5_2 : wr.cell? ⟨go5, (x5_1 : Int).toNat * 4 + 2, none⟩ = some (.int .i64 ((rd_T80 x0_1 x5_1).f2)) := hcc5 2 _ rfl
  have hx5_3 : wr.cell? ⟨go5, (x5_1 : Int).toNat * 4 + 3, none⟩ = some (.bool ((rd_T80 x0_1 x5_1).f3)) := hcc5 3 _ rfl
  have hf5_0 : wr.frozen? ⟨go5, (x5_1 : Int).toNat * 4, none⟩ = false := hfr5 0
  have hf5_1 : wr.frozen? ⟨go5, (x5_1 : Int).toNat * 4 + 1, none⟩ = false := hfr5 1
  have hf5_2 : wr.frozen? ⟨go5, (x5_1 : Int).toNat * 4 + 2, none⟩ = false := hfr5 2
  have hf5_3 : wr.frozen? ⟨go5, (x5_1 : Int).toNat * 4 + 3, none⟩ = false := hfr5 3
  clear hcl5 hcc5 hfr5; (try clear hM5)
  replace p5 := eq_true p5
  replace q5 := eq_true q5
  have HX10 := aM (show Kd.R k80 58 wr w0.heap.size (fun k_ => (P0_ k_ ∨ w.heap.size ≤ k_)) (.slice (some ⟨go5, 0, none⟩) x0_1.length co9) x0_1 from HO_0.out)
  obtain ⟨ce10, hcl10, hM10, hcc10, hfr10⟩ := Kd.R_elem HX10.out z80 (x5_1 : Int) (oD ‹_›) (by have h_ : (x5_1 : Int) < ((x0_1.length : Int) : Int) := oD ‹_›; exact h_)
  obtain rfl := k80_openM hM10
  have HP10 := Kd.R_seg HX10.out (x5_1 : Int) (oD ‹_›) (by have h_ : (x5_1 : Int) < ((x0_1.length : Int) : Int) := oD ‹_›; exact h_) (seg := [.int .i64 x1_1]) (j := 0) hcl10 hcc10 (show 1 ≤ 4 from by decide) (x' := (⟨x1_1, (rd_T80 x0_1 x5_1).f1, (rd_T80 x0_1 x5_1).f2, (rd_T80 x0_1 x5_1).f3⟩ : S80)) (k80_mkM _ _ _ (⟨x1_1, (rd_T80 x0_1 x5_1).f1, (rd_T80 x0_1 x5_1).f2, (rd_T80 x0_1 x5_1).f3⟩ : S80) ) (fun _ hk => hk)
  have hx10_0 := hcc10 0 _ rfl
  (try simp only [show (k80).sz = 4 from rfl, Nat.mul_one, Nat.add_zero] at hx10_0)
  have hf10_0 := hfr10 0
  (try simp only [show (k80).sz = 4 from rfl, Nat.mul_one, Nat.add_zero] at hf10_0)
  clear hcl10 hcc10 hfr10; (try clear hM10)
  go_wp2_with (first | ((with_reducible refine gate_store (t := 3) (p := 16) rfl ?_); refine store_event (t := 3) (p := 16) (v := ?vo_w11) (w1 := (wr.setCell ⟨go5, (x5_1 : Int).toNat * 4, none⟩ (.int .i64 x1_1))) ?hg ?ho ?hn ?hr ?_; (case ho => rfl); (case hg => rfl); (case hn => rfl); (case hr => (go_simp; done)); intro w11 hw; have hg : wr.grownBy w11 (some go5) := (by rw [hw]; exact HP10.2); have hp_ : Kd.R k80 58 w11 w0.heap.size (fun k_ => (P0_ k_ ∨ w.heap.size ≤ k_)) (.slice (some ⟨go5, 0, none⟩) x0_1.length co9) y239 := (by rw [hw, Ny239.out]; exact HP10.1); clear HP10; replace HB := aM ((by rw [hw]; exact below_set (HB.out) GB5.out : Below w0.heap.size w0 w11)); replace HK := aM (Kept.of_grown (S := (fun k_ => P0_ k_)) hg HK.out (fun k_ e_ => (HO_0.out.1 k_ e_))); replace HO_0 := aM (hp_); clear hg hw hp_; have p6 : 0 ≤ (x5_1 : Int) := oD ‹_›; have q6 : (x5_1 : Int) < ((x0_1.length : Int) : Int) := oD ‹_›; obtain ⟨ce6, hcl6, hM6, hcc6, hfr6⟩ := Kd.R_elem HO_0.out z80 (x5_1 : Int) p6 q6; obtain rfl := k80_openM hM6; have hx6_0 : w11.cell? ⟨go5, (x5_1 : Int).toNat * 4, none⟩ = some (.int .i64 ((rd_T80 y239 x5_1).f0)) := hcc6 0 _ rfl; have hx6_1 : w11.cell? ⟨go5, (x5_1 : Int).toNat * 4 + 1, none⟩ = some (.int .i64 ((rd_T80 y239 x5_1).f1)) := hcc6 1 _ rfl; have hx6_2 : w11.cell? ⟨go5, (x5_1 : Int).toNat * 4 + 2, none⟩ = some (.int .i64 ((rd_T80 y239 x5_1).f2)) := hcc6 2 _ rfl; have hx6_3 : w11.cell? ⟨go5, (x5_1 : Int).toNat * 4 + 3, none⟩ = some (.bool ((rd_T80 y239 x5_1).f3)) := hcc6 3 _ rfl; have hf6_0 : w11.frozen? ⟨go5, (x5_1 : Int).toNat * 4, none⟩ = false := hfr6 0; have hf6_1 : w11.frozen? ⟨go5, (x5_1 : Int).toNat * 4 + 1, none⟩ = false := hfr6 1; have hf6_2 : w11.frozen? ⟨go5, (x5_1 : Int).toNat * 4 + 2, none⟩ = false := hfr6 2; have hf6_3 : w11.frozen? ⟨go5, (x5_1 : Int).toNat * 4 + 3, none⟩ = false := hfr6 3; clear hcl6 hcc6 hfr6; (try clear hM6); replace p6 := eq_true p6; replace q6 := eq_true q6; have HX12 := aM (show Kd.R k80 58 w11 w0.heap.size (fun k_ => (P0_ k_ ∨ w.heap.size ≤ k_)) (.slice (some ⟨go5, 0, none⟩) x0_1.length co9) y239 from HO_0.out); obtain ⟨ce12, hcl12, hM12, hcc12, hfr12⟩ := Kd.R_elem HX12.out z80 (x5_1 : Int) (oD ‹_›) (by have h_ : (x5_1 : Int) < ((x0_1.length : Int) : Int) := oD ‹_›; exact h_); obtain rfl := k80_openM hM12; have HP12 := Kd.R_seg HX12.out (x5_1 : Int) (oD ‹_›) (by have h_ : (x5_1 : Int) < ((x0_1.length : Int) : Int) := oD ‹_›; exact h_) (seg := [.int .i64 (wrap64 (x1_1 + 1))]) (j := 1) hcl12 hcc12 (show 2 ≤ 4 from by decide) (x' := (⟨(rd_T80 y239 x5_1).f0, wrap64 (x1_1 + 1), (rd_T80 y239 x5_1).f2, (rd_T80 y239 x5_1).f3⟩ : S80)) (k80_mkM _ _ _ (⟨(rd_T80 y239 x5_1).f0, wrap64 (x1_1 + 1), (rd_T80 y239 x5_1).f2, (rd_T80 y239 x5_1).f3⟩ : S80) ) (fun _ hk => hk); have hx12_1 := hcc12 1 _ rfl; (try simp only [show (k80).sz = 4 from rfl, Nat.mul_one, Nat.add_zero] at hx12_1); have hf12_1 := hfr12 1; (try simp only [show (k80).sz = 4 from rfl, Nat.mul_one, Nat.add_zero] at hf12_1); clear hcl12 hcc12 hfr12; (try clear hM12)) | ((with_reducible refine gate_store (t := 3) (p := 23) rfl ?_); refine store_event (t := 3) (p := 23) (v := ?vo_w13) (w1 := (w11.setCell ⟨go5, (x5_1 : Int).toNat * 4 + 1, none⟩ (.int .i64 (wrap64 (x1_1 + 1))))) ?hg ?ho ?hn ?hr ?_; (case ho => rfl); (case hg => rfl); (case hn => rfl); (case hr => (go_simp; done)); intro w13 hw; have hg : w11.grownBy w13 (some go5) := (by rw [hw]; exact HP12.2); have hp_ : Kd.R k80 58 w13 w0.heap.size (fun k_ => (P0_ k_ ∨ w.heap.size ≤ k_)) (.slice (some ⟨go5, 0, none⟩) x0_1.length co9) y240 := (by rw [hw, Ny240.out]; exact HP12.1); clear HP12; replace HB := aM ((by rw [hw]; exact below_set (HB.out) GB5.out : Below w0.heap.size w0 w13)); replace HK := aM (Kept.of_grown (S := (fun k_ => P0_ k_)) hg HK.out (fun k_ e_ => (HO_0.out.1 k_ e_))); replace HO_0 := aM (hp_); clear hg hw hp_; have p7 : 0 ≤ (x5_1 : Int) := oD ‹_›; have q7 : (x5_1 : Int) < ((x0_1.length : Int) : Int) := oD ‹_›; obtain ⟨ce7, hcl7, hM7, hcc7, hfr7⟩ := Kd.R_elem HO_0.out z80 (x5_1 : Int) p7 q7; obtain rfl := k80_openM hM7; have hx7_0 : w13.cell? ⟨go5, (x5_1 : Int).toNat * 4, none⟩ = some (.int .i64 ((rd_T80 y240 x5_1).f0)) := hcc7 0 _ rfl; have hx7_1 : w13.cell? ⟨go5, (x5_1 : Int).toNat * 4 + 1, none⟩ = some (.int .i64 ((rd_T80 y240 x5_1).f1)) := hcc7 1 _ rfl; have hx7_2 : w13.cell? ⟨go5, (x5_1 : Int).toNat * 4 + 2, none⟩ = some (.int .i64 ((rd_T80 y240 x5_1).f2)) := hcc7 2 _ rfl; have hx7_3 : w13.cell? ⟨go5, (x5_1 : Int).toNat * 4 + 3, none⟩ = some (.bool ((rd_T80 y240 x5_1).f3)) := hcc7 3 _ rfl; have hf7_0 : w13.frozen? ⟨go5, (x5_1 : Int).toNat * 4, none⟩ = false := hfr7 0; have hf7_1 : w13.frozen? ⟨go5, (x5_1 : Int).toNat * 4 + 1, none⟩ = false := hfr7 1; have hf7_2 : w13.frozen? ⟨go5, (x5_1 : Int).toNat * 4 + 2, none⟩ = false := hfr7 2; have hf7_3 : w13.frozen? ⟨go5, (x5_1 : Int).toNat * 4 + 3, none⟩ = false := hfr7 3; clear hcl7 hcc7 hfr7; (try clear hM7); replace p7 := eq_true p7; replace q7 := eq_true q7; have HX14 := aM (show Kd.R k80 58 w13 w0.heap.size (fun k_ => (P0_ k_ ∨ w.heap.size ≤ k_)) (.slice (some ⟨go5, 0, none⟩) x0_1.length co9) y240 from HO_0.out); obtain ⟨ce14, hcl14, hM14, hcc14, hfr14⟩ := Kd.R_elem HX14.out z80 (x5_1 : Int) (oD ‹_›) (by have h_ : (x5_1 : Int) < ((x0_1.length : Int) : Int) := oD ‹_›; exact h_); obtain rfl := k80_openM hM14; have HP14 := Kd.R_seg HX14.out (x5_1 : Int) (oD ‹_›) (by have h_ : (x5_1 : Int) < ((x0_1.length : Int) : Int) := oD ‹_›; exact h_) (seg := [.int .i64 (wrap64 ((wrap64 (x1_1 + 1)) + 1))]) (j := 2) hcl14 hcc14 (show 3 ≤ 4 from by decide) (x' := (⟨(rd_T80 y240 x5_1).f0, (rd_T80 y240 x5_1).f1, wrap64 ((wrap64 (x1_1 + 1)) + 1), (rd_T80 y240 x5_1).f3⟩ : S80)) (k80_mkM _ _ _ (⟨(rd_T80 y240 x5_1).f0, (rd_T80 y240 x5_1).f1, wrap64 ((wrap64 (x1_1 + 1)) + 1), (rd_T80 y240 x5_1).f3⟩ : S80) ) (fun _ hk => hk); have hx14_2 := hcc14 2 _ rfl; (try simp only [show (k80).sz = 4 from rfl, Nat.mul_one, Nat.add_zero] at hx14_2); have hf14_2 := hfr14 2; (try simp only [show (k80).sz = 4 from rfl, Nat.mul_one, Nat.add_zero] at hf14_2); clear hcl14 hcc14 hfr14; (try clear hM14)) | ((with_reducible refine gate_store (t := 3) (p := 30) rfl ?_); refine store_event (t := 3) (p := 30) (v := ?vo_w15) (w1 := (w13.setCell ⟨go5, (x5_1 : Int).toNat * 4 + 2, none⟩ (.int .i64 (wrap64 ((wrap64 (x1_1 + 1)) + 1))))) ?hg ?ho ?hn ?hr ?_; (case ho => rfl); (case hg => rfl); (case hn => rfl); (case hr => (go_simp; done)); intro w15 hw; have hg : w13.grownBy w15 (some go5) := (by rw [hw]; exact HP14.2); have hp_ : Kd.R k80 58 w15 w0.heap.size (fun k_ => (P0_ k_ ∨ w.heap.size ≤ k_)) (.slice (some ⟨go5, 0, none⟩) x0_1.length co9) y241 := (by rw [hw, Ny241.out]; exact HP14.1); clear HP14; replace HB := aM ((by rw [hw]; exact below_set (HB.out) GB5.out : Below w0.heap.size w0 w15)); replace HK := aM (Kept.of_grown (S := (fun k_ => P0_ k_)) hg HK.out (fun k_ e_ => (HO_0.out.1 k_ e_))); replace HO_0 := aM (hp_); clear hg hw hp_; have p8 : 0 ≤ (x5_1 : Int) := oD ‹_›; have q8 : (x5_1 : Int) < ((x0_1.length : Int) : Int) := oD ‹_›; obtain ⟨ce8, hcl8, hM8, hcc8, hfr8⟩ := Kd.R_elem HO_0.out z80 (x5_1 : Int) p8 q8; obtain rfl := k80_openM hM8; have hx8_0 : w15.cell? ⟨go5, (x5_1 : Int).toNat * 4, none⟩ = some (.int .i64 ((rd_T80 y241 x5_1).f0)) := hcc8 0 _ rfl; have hx8_1 : w15.cell? ⟨go5, (x5_1 : Int).toNat * 4 + 1, none⟩ = some (.int .i64 ((rd_T80 y241 x5_1).f1)) := hcc8 1 _ rfl; have hx8_2 : w15.cell? ⟨go5, (x5_1 : Int).toNat * 4 + 2, none⟩ = some (.int .i64 ((rd_T80 y241 x5_1).f2)) := hcc8 2 _ rfl; have hx8_3 : w15.cell? ⟨go5, (x5_1 : Int).toNat * 4 + 3, none⟩ = some (.bool ((rd_T80 y241 x5_1).f3)) := hcc8 3 _ rfl; have hf8_0 : w15.frozen? ⟨go5, (x5_1 : Int).toNat * 4, none⟩ = false := hfr8 0; have hf8_1 : w15.frozen? ⟨go5, (x5_1 : Int).toNat * 4 + 1, none⟩ = false := hfr8 1; have hf8_2 : w15.frozen? ⟨go5, (x5_1 : Int).toNat * 4 + 2, none⟩ = false := hfr8 2; have hf8_3 : w15.frozen? ⟨go5, (x5_1 : Int).toNat * 4 + 3, none⟩ = false := hfr8 3; clear hcl8 hcc8 hfr8; (try clear hM8); replace p8 := eq_true p8; replace q8 := eq_true q8; have HX16 := aM (show Kd.R k80 58 w15 w0.heap.size (fun k_ => (P0_ k_ ∨ w.heap.size ≤ k_)) (.slice (some ⟨go5, 0, none⟩) x0_1.length co9) y241 from HO_0.out); obtain ⟨ce16, hcl16, hM16, hcc16, hfr16⟩ := Kd.R_elem HX16.out z80 (x5_1 : Int) (oD ‹_›) (by have h_ : (x5_1 : Int) < ((x0_1.length : Int) : Int) := oD ‹_›; exact h_); obtain rfl := k80_openM hM16; have HP16 := Kd.R_seg HX16.out (x5_1 : Int) (oD ‹_›) (by have h_ : (x5_1 : Int) < ((x0_1.length : Int) : Int) := oD ‹_›; exact h_) (seg := [.bool ((Int.tmod (wrap64 ((wrap64 ((wrap64 (x1_1 + 1)) + 1)) + 1)) 3) == 0)]) (j := 3) hcl16 hcc16 (show 4 ≤ 4 from by decide) (x' := (⟨(rd_T80 y241 x5_1).f0, (rd_T80 y241 x5_1).f1, (rd_T80 y241 x5_1).f2, ((Int.tmod (wrap64 ((wrap64 ((wrap64 (x1_1 + 1)) + 1)) + 1)) 3) == 0)⟩ : S80)) (k80_mkM _ _ _ (⟨(rd_T80 y241 x5_1).f0, (rd_T80 y241 x5_1).f1, (rd_T80 y241 x5_1).f2, ((Int.tmod (wrap64 ((wrap64 ((wrap64 (x1_1 + 1)) + 1)) + 1)) 3) == 0)⟩ : S80) ) (fun _ hk => hk); have hx16_3 := hcc16 3 _ rfl; (try simp only [show (k80).sz = 4 from rfl, Nat.mul_one, Nat.add_zero] at hx16_3); have hf16_3 := hfr16 3; (try simp only [show (k80).sz = 4 from rfl, Nat.mul_one, Nat.add_zero] at hf16_3); clear hcl16 hcc16 hfr16; (try clear hM16)) | ((with_reducible refine gate_store (t := 4) (p := 39) rfl ?_); refine store_event (t := 4) (p := 39) (v := ?vo_w17) (w1 := (w15.setCell ⟨go5, (x5_1 : Int).toNat * 4 + 3, none⟩ (.bool ((Int.tmod (wrap64 ((wrap64 ((wrap64 (x1_1 + 1)) + 1)) + 1)) 3) == 0)))) ?hg ?ho ?hn ?hr ?_; (case ho => rfl); (case hg => rfl); (case hn => rfl); (case hr => (go_simp; done)); intro w17 hw; have hg : w15.grownBy w17 (some go5) := (by rw [hw]; exact HP16.2); have hp_ : Kd.R k80 58 w17 w0.heap.size (fun k_ => (P0_ k_ ∨ w.heap.size ≤ k_)) (.slice (some ⟨go5, 0, none⟩) x0_1.length co9) y242 := (by rw [hw, Ny242.out]; exact HP16.1); clear HP16; replace HB := aM ((by rw [hw]; exact below_set (HB.out) GB5.out : Below w0.heap.size w0 w17)); replace HK := aM (Kept.of_grown (S := (fun k_ => P0_ k_)) hg HK.out (fun k_ e_ => (HO_0.out.1 k_ e_))); replace HO_0 := aM (hp_); clear hg hw hp_))
  go_roundg k1
  case measure => have := HK1.out; omega
  case rel => exact ⟨(y242), (wrap64 ((wrap64 ((wrap64 ((wrap64 (x1_1 + 1)) + 1)) + 1)) + 1)), (wrap64 (x5_1 + 1)), (by rfl), (by rfl), H', ⟨by have := HK1.out; omega⟩, ⟨by exact HO_0.out⟩, ⟨by repeat ((with_reducible exact HK.out))⟩, ⟨by repeat ((with_reducible exact HB.out))⟩⟩
def laws_heldRouteS.l0 : Nat → List (S80) → Int → Int → Option (Int)
 | 0, _, _, _ => none
 | k + 1, x0, x1, x5 => if x5 < (x0.length : Int) then (if 0 ≤ x5 then (if ((rd_T80 x0 x5).f0) = x1 then (if ((rd_T80 x0 x5).f1) = (wrap64 (x1 + 1)) then (if ((rd_T80 x0 x5).f2) = (wrap64 ((wrap64 (x1 + 1)) + 1)) then (if (((rd_T80 x0 x5).f3) != ((Int.tmod (wrap64 ((wrap64 ((wrap64 (x1 + 1)) + 1)) + 1)) 3) == 0)) = true then (some (-1)) else (laws_heldRouteS.l0 k x0 (wrap64 ((wrap64 ((wrap64 ((wrap64 (x1 + 1)) + 1)) + 1)) + 1)) (wrap64 (x5 + 1)))) else (some (-1))) else (some (-1))) else (some (-1))) else (none)) else (some x1)
def laws_heldRouteS.f (k : Nat) (l0 : List (S80)) (a1 : Int) : Option (Int) := laws_heldRouteS.l0 k l0 a1 0
theorem laws_heldRouteS.calls (k : Nat) (A0 : Option Addr) (c0 : Nat) (l0 : List (S80)) (a1 : Int) (r : Int) (w : World) (hr0 : Kd.C k80 w A0 l0.length l0) (hc0 : l0.length ≤ c0) (h : laws_heldRouteS.f k l0 a1 = some r) :
  Calls Tryz.prog 18 #[.slice A0 l0.length c0, .int .i64 a1] w fun e w' => e = .returned (.int .i64 r) ∧ Drawn0 w w' := by
 have HR0 := aM hr0
 have HC0 := aM hc0
 clear hr0 hc0
 have H : (laws_heldRouteS.l0 k l0 a1 0) = some r := h
 clear h
 have H' := aM H
 clear H
 go_enter Tryz.func18, Tryz.ntmps18
 go_wp2
 go_loopg [1, 5] k (fun kq v1 v5 w' => ∃ (x1_1 : Int) (x5_1 : Int), v1 = .int .i64 x1_1 ∧ v5 = .int .i64 x5_1 ∧ Aside0 (laws_heldRouteS.l0 kq l0 x1_1 x5_1 = some r) ∧ Aside0 (kq ≤ k) ∧ Drawn0 w w')
 case atStart => exact ⟨(a1), (0), (by rfl), (by rfl), H', ⟨Nat.le_refl _⟩, by repeat (exact Drawn0.refl _)⟩
 clear H'
 obtain ⟨x1_1, x5_1, rfl, rfl, HA, HK1, ⟨m1, rfl⟩⟩ := hrel
 cases gk with
 | zero => exact absurd HA.out (by simp [laws_heldRouteS.l0])
 | succ k1 =>
  have H := HA.out
  clear HA
  simp only [laws_heldRouteS.l0] at H
  by_cases c3 : x5_1 < (l0.length : Int)
  rotate_left
  ·rw [if_neg c3] at H
   have c3b0 : decide (x5_1 < (l0.length : Int)) = false := decide_eq_false c3
   clear c3
   obtain rfl := Option.some.inj H
   go_wp2
   go_ret
   exact ⟨by rfl, by repeat (first | exact Drawn0.refl _ | apply Drawn0.step)⟩
  rw [if_pos c3] at H
  have c3b0 : decide (x5_1 < (l0.length : Int)) = true := decide_eq_true c3
  clear c3
  by_cases c4 : 0 ≤ x5_1
  rotate_left
  ·rw [if_neg c4] at H
   exact absurd H (by simp)
  rw [if_pos c4] at H
  have c4b0 : decide (0 ≤ x5_1) = true := decide_eq_true c4
  clear c4
  by_cases c5 : ((rd_T80 l0 x5_1).f0) = x1_1
  rotate_left
  ·rw [if_neg c5] at H
   have c5b0 : (((rd_T80 l0 x5_1).f0) == x1_1) = false := beq_eq_false_iff_ne.mpr c5
   have c5b1 : (((rd_T80 l0 x5_1).f0) != x1_1) = true := bne_iff_ne.mpr c5
   obtain rfl := Option.some.inj H
   have p243 : 0 ≤ (x5_1 : Int) := oD ‹_›
   have q243 : x5_1 < (l0.length : Int) := oD ‹_›
   obtain ⟨ad243, e243, hx243_0, hx243_1, hx243_2, hx243_3⟩ := at_T80 HR0.out x5_1 p243 q243
   cases e243
   replace p243 := eq_true p243
   replace q243 := eq_true q243
   go_wp2
   go_ret
   exact ⟨by rfl, by repeat (first | exact Drawn0.refl _ | apply Drawn0.step)⟩
  rw [if_pos c5] at H
  have c5b0 : (((rd_T80 l0 x5_1).f0) == x1_1) = true := beq_iff_eq.mpr c5
  have c5b1 : (((rd_T80 l0 x5_1).f0) != x1_1) = false := bne_eq_false_iff_eq.mpr c5
  clear c5
  by_cases c6 : ((rd_T80 l0 x5_1).f1) = (wrap64 (x1_1 + 1))
  rotate_left
  ·rw [if_neg c6] at H
   have c6b0 : (((rd_T80 l0 x5_1).f1) == (wrap64 (x1_1 + 1))) = false := beq_eq_false_iff_ne.mpr c6
   have c6b1 : (((rd_T80 l0 x5_1).f1) != (wrap64 (x1_1 + 1))) = true := bne_iff_ne.mpr c6
   obtain rfl := Option.some.inj H
   have p243 : 0 ≤ (x5_1 : Int) := oD ‹_›
   have q243 : x5_1 < (l0.length : Int) := oD ‹_›
   obtain ⟨ad243, e243, hx243_0, hx243_1, hx243_2, hx243_3⟩ := at_T80 HR0.out x5_1 p243 q243
   cases e243
   replace p243 := eq_true p243
   replace q243 := eq_true q243
   have p244 : 0 ≤ (x5_1 : Int) := oD ‹_›
   have q244 : x5_1 < (l0.length : Int) := oD ‹_›
   obtain ⟨ad244, e244, hx244_0, hx244_1, hx244_2, hx244_3⟩ := at_T80 HR0.out x5_1 p244 q244
   obtain rfl : ad243 = ad244 := (by injection e244)
   replace p244 := eq_true p244
   replace q244 := eq_true q244
   go_wp2
   go_ret
   exact ⟨by rfl, by repeat (first | exact Drawn0.refl _ | apply Drawn0.step)⟩
  rw [if_pos c6] at H
  have c6b0 : (((rd_T80 l0 x5_1).f1) == (wrap64 (x1_1 + 1))) = true := beq_iff_eq.mpr c6
  have c6b1 : (((rd_T80 l0 x5_1).f1) != (wrap64 (x1_1 + 1))) = false := bne_eq_false_iff_eq.mpr c6
  clear c6
  by_cases c7 : ((rd_T80 l0 x5_1).f2) = (wrap64 ((wrap64 (x1_1 + 1)) + 1))
  rotate_left
  ·rw [if_neg c7] at H
   have c7b0 : (((rd_T80 l0 x5_1).f2) == (wrap64 ((wrap64 (x1_1 + 1)) + 1))) = false := beq_eq_false_iff_ne.mpr c7
   have c7b1 : (((rd_T80 l0 x5_1).f2) != (wrap64 ((wrap64 (x1_1 + 1)) + 1))) = true := bne_iff_ne.mpr c7
   obtain rfl := Option.some.inj H
   have p243 : 0 ≤ (x5_1 : Int) := oD ‹_›
   have q243 : x5_1 < (l0.length : Int) := oD ‹_›
   obtain ⟨ad243, e243, hx243_0, hx243_1, hx243_2, hx243_3⟩ := at_T80 HR0.out x5_1 p243 q243
   cases e243
   replace p243 := eq_true p243
   replace q243 := eq_true q243
   have p244 : 0 ≤ (x5_1 : Int) := oD ‹_›
   have q244 : x5_1 < (l0.length : Int) := oD ‹_›
   obtain ⟨ad244, e244, hx244_0, hx244_1, hx244_2, hx244_3⟩ := at_T80 HR0.out x5_1 p244 q244
   obtain rfl : ad243 = ad244 := (by injection e244)
   replace p244 := eq_true p244
   replace q244 := eq_true q244
   have p245 : 0 ≤ (x5_1 : Int) := oD ‹_›
   have q245 : x5_1 < (l0.length : Int) := oD ‹_›
   obtain ⟨ad245, e245, hx245_0, hx245_1, hx245_2, hx245_3⟩ := at_T80 HR0.out x5_1 p245 q245
   obtain rfl : ad243 = ad245 := (by injection e245)
   replace p245 := eq_true p245
   replace q245 := eq_true q245
   go_wp2
   go_ret
   exact ⟨by rfl, by repeat (first | exact Drawn0.refl _ | apply Drawn0.step)⟩
  rw [if_pos c7] at H
  have c7b0 : (((rd_T80 l0 x5_1).f2) == (wrap64 ((wrap64 (x1_1 + 1)) + 1))) = true := beq_iff_eq.mpr c7
  have c7b1 : (((rd_T80 l0 x5_1).f2) != (wrap64 ((wrap64 (x1_1 + 1)) + 1))) = false := bne_eq_false_iff_eq.mpr c7
  clear c7
  by_cases c8 : (((rd_T80 l0 x5_1).f3) != ((Int.tmod (wrap64 ((wrap64 ((wrap64 (x1_1 + 1)) + 1)) + 1)) 3) == 0)) = true
  ·rw [if_pos c8] at H
   have c8b0 : (((rd_T80 l0 x5_1).f3) != ((Int.tmod (wrap64 ((wrap64 ((wrap64 (x1_1 + 1)) + 1)) + 1)) 3) == 0)) = true := c8
   (try (have c8b1 : decide (((rd_T80 l0 x5_1).f3) = ((Int.tmod (wrap64 ((wrap64 ((wrap64 (x1_1 + 1)) + 1)) + 1)) 3) == 0)) = false := by simpa using c8))
   (try (have c8b2 : (((rd_T80 l0 x5_1).f3) == ((Int.tmod (wrap64 ((wrap64 ((wrap64 (x1_1 + 1)) + 1)) + 1)) 3) == 0)) = false := by simpa using c8))
   (try (have c8b3 : ¬ (((rd_T80 l0 x5_1).f3) = ((Int.tmod (wrap64 ((wrap64 ((wrap64 (x1_1 + 1)) + 1)) + 1)) 3) == 0)) := by simpa using c8))
   clear c8
   obtain rfl := Option.some.inj H
   have p243 : 0 ≤ (x5_1 : Int) := oD ‹_›
   have q243 : x5_1 < (l0.length : Int) := oD ‹_›
   obtain ⟨ad243, e243, hx243_0, hx243_1, hx243_2, hx243_3⟩ := at_T80 HR0.out x5_1 p243 q243
   cases e243
   replace p243 := eq_true p243
   replace q243 := eq_true q243
   have p244 : 0 ≤ (x5_1 : Int) := oD ‹_›
   have q244 : x5_1 < (l0.length : Int) := oD ‹_›
   obtain ⟨ad244, e244, hx244_0, hx244_1, hx244_2, hx244_3⟩ := at_T80 HR0.out x5_1 p244 q244
   obtain rfl : ad243 = ad244 := (by injection e244)
   replace p244 := eq_true p244
   replace q244 := eq_true q244
   have p245 : 0 ≤ (x5_1 : Int) := oD ‹_›
   have q245 : x5_1 < (l0.length : Int) := oD ‹_›
   obtain ⟨ad245, e245, hx245_0, hx245_1, hx245_2, hx245_3⟩ := at_T80 HR0.out x5_1 p245 q245
   obtain rfl : ad243 = ad245 := (by injection e245)
   replace p245 := eq_true p245
   replace q245 := eq_true q245
   have p246 : 0 ≤ (x5_1 : Int) := oD ‹_›
   have q246 : x5_1 < (l0.length : Int) := oD ‹_›
   obtain ⟨ad246, e246, hx246_0, hx246_1, hx246_2, hx246_3⟩ := at_T80 HR0.out x5_1 p246 q246
   obtain rfl : ad243 = ad246 := (by injection e246)
   replace p246 := eq_true p246
   replace q246 := eq_true q246
   go_wp2
   go_ret
   exact ⟨by rfl, by repeat (first | exact Drawn0.refl _ | apply Drawn0.step)⟩
  rw [if_neg c8] at H
  have c8b0 : (((rd_T80 l0 x5_1).f3) != ((Int.tmod (wrap64 ((wrap64 ((wrap64 (x1_1 + 1)) + 1)) + 1)) 3) == 0)) = false := by simpa using c8
  (try (have c8b1 : decide (((rd_T80 l0 x5_1).f3) = ((Int.tmod (wrap64 ((wrap64 ((wrap64 (x1_1 + 1)) + 1)) + 1)) 3) == 0)) = true := by simpa using c8))
  (try (have c8b2 : (((rd_T80 l0 x5_1).f3) == ((Int.tmod (wrap64 ((wrap64 ((wrap64 (x1_1 + 1)) + 1)) + 1)) 3) == 0)) = true := by simpa using c8))
  clear c8
  have H' := aM H
  clear H
  have p243 : 0 ≤ (x5_1 : Int) := oD ‹_›
  have q243 : x5_1 < (l0.length : Int) := oD ‹_›
  obtain ⟨ad243, e243, hx243_0, hx243_1, hx243_2, hx243_3⟩ := at_T80 HR0.out x5_1 p243 q243
  cases e243
  replace p243 := eq_true p243
  replace q243 := eq_true q243
  have p244 : 0 ≤ (x5_1 : Int) := oD ‹_›
  have q244 : x5_1 < (l0.length : Int) := oD ‹_›
  obtain ⟨ad244, e244, hx244_0, hx244_1, hx244_2, hx244_3⟩ := at_T80 HR0.out x5_1 p244 q244
  obtain rfl : ad243 = ad244 := (by injection e244)
  replace p244 := eq_true p244
  replace q244 := eq_true q244
  have p245 : 0 ≤ (x5_1 : Int) := oD ‹_›
  have q245 : x5_1 < (l0.length : Int) := oD ‹_›
  obtain ⟨ad245, e245, hx245_0, hx245_1, hx245_2, hx245_3⟩ := at_T80 HR0.out x5_1 p245 q245
  obtain rfl : ad243 = ad245 := (by injection e245)
  replace p245 := eq_true p245
  replace q245 := eq_true q245
  have p246 : 0 ≤ (x5_1 : Int) := oD ‹_›
  have q246 : x5_1 < (l0.length : Int) := oD ‹_›
  obtain ⟨ad246, e246, hx246_0, hx246_1, hx246_2, hx246_3⟩ := at_T80 HR0.out x5_1 p246 q246
  obtain rfl : ad243 = ad246 := (by injection e246)
  replace p246 := eq_true p246
  replace q246 := eq_true q246
  go_wp2
  go_roundg k1
  case measure => have := HK1.out; omega
  case rel => exact ⟨(wrap64 ((wrap64 ((wrap64 ((wrap64 (x1_1 + 1)) + 1)) + 1)) + 1)), (wrap64 (x5_1 + 1)), (by rfl), (by rfl), H', ⟨by have := HK1.out; omega⟩, by repeat (first | exact Drawn0.refl _ | apply Drawn0.step)⟩
end Go.Proofs.YtgibacfgjmdjdaaGreat.PFnExactIsStable
end
section
namespace Go.Proofs.YtgibacfgjmdjdaaGreat.PFnExactIsStable
open Go.RowKit Go.Proofs.YtgibacfgjmdjdaaGreatW.PrintWords Go.Proofs.YtgibacfgjmdjdaaGreatW.PrintLast Go.Proofs.YtgibacfgjmdjdaaGreatW.PrintMore
attribute [local go_sem] max2_int min2_int max_two min_two max_three min_three max_four min_four   -- for this text's walks alone
set_option linter.unusedVariables false
set_option linter.unusedSimpArgs false
set_option maxHeartbeats 8000000
set_option maxRecDepth 100000
theorem mul64_is (n : Nat) (hn : n ≤ 4) (w : World) : Calls Tryz.prog 85 #[.int .u64 1, .int .u64 n] w fun e w' => e = .returned (.tuple #[.int .u64 0, .int .u64 n]) ∧ w' = w := by
  have a1 : Go.bits .and .u64 1 4294967295 = 1 := by kernel_rfl
  have a0 : Go.bits .and .u64 0 4294967295 = 0 := by kernel_rfl
  have a2 : Go.bits .and .u64 2 4294967295 = 2 := by kernel_rfl
  have a3 : Go.bits .and .u64 3 4294967295 = 3 := by kernel_rfl
  have a4 : Go.bits .and .u64 4 4294967295 = 4 := by kernel_rfl
  obtain rfl | rfl | rfl | rfl | rfl : n = 0 ∨ n = 1 ∨ n = 2 ∨ n = 3 ∨ n = 4 := by omega
  all_goals
    go_enter Tryz.func85, Tryz.ntmps85
    go_wp2
    go_ret2
    exact ⟨by first | rfl | simp [*], rfl⟩
theorem mul_is (n : Nat) (hn : n ≤ 4) (w : World) : Calls Tryz.prog 61 #[.int .u64 1, .int .u64 n] w fun e w' => e = .returned (.tuple #[.int .u64 0, .int .u64 n]) ∧ w' = w := by
  go_enter Tryz.func61, Tryz.ntmps61
  go_wp2_with (go_at_call 85; refine (mul64_is n hn w).mono ?_; rintro e w1 ⟨rfl, rfl⟩)
  go_ret2
  exact ⟨rfl, rfl⟩
theorem run_copy4 {P : Program} (w : World) (dT sT ty elem : TypeId) (g o dLen dCap : Nat) (a : Addr) (sLen sCap : Nat) (cur : Array Value) (t : TypeId) (cs : List Value)
    (hu : P.underlying dT = some (.slice elem)) (hs : (P.info? elem).map (·.size) = some 4)
    (hg : w.heap[g]? = some (.cells cur t (0, 0))) (hn : cs.length = Nat.min sLen dLen * 4)
    (hsrc : ∀ j v, cs[j]? = some v → w.cell? (a.add j) = some v) (hfit : o + cs.length ≤ cur.size) (h1 : ∀ v ∈ cs, v.oneCell' = true) :
    (Builtin.copy_ #[dT, sT] ty #[.slice (some ⟨g, o, none⟩) dLen dCap, .slice (some a) sLen sCap]).run P w =
      .ok (goInt (Nat.min sLen dLen)) (w.setRow g (cur.toList.take o ++ cs ++ cur.toList.drop (o + cs.length)).toArray) := by
  have hl := run_loadCells_list (P := P) w a cs hsrc
  have hst := run_storeCells_at P g o t cs 0 cur w hg (by simpa using hfit) h1
  cases hq : P.info? elem with
  | none => simp [hq] at hs
  | some i =>
    have hi : i.size = 4 := by simpa [hq] using hs
    simp [Builtin.copy_, run_underlying hu, Builtin.lenOf, Builtin.firstCells, sizeOf, typeInfo, hq, hi, ← hn, hl, hst]
def c80 (x : S80) : List Value := [.int .i64 x.f0, .int .i64 x.f1, .int .i64 x.f2, .bool x.f3]
def P80 (k : Nat) (x : S80) : List Value := (List.replicate k (c80 x)).flatten
theorem P80_len (k : Nat) (x : S80) : (P80 k x).length = k * 4 := by
  induction k with
  | zero => rfl
  | succ k ih => rw [P80, List.replicate_succ, List.flatten_cons, List.length_append, ← P80, ih, c80]; simp; omega
theorem P80_add (j k : Nat) (x : S80) : P80 j x ++ P80 k x = P80 (j + k) x := by rw [P80, P80, P80, ← List.flatten_append, List.replicate_append_replicate]
theorem P80_one (k : Nat) (x : S80) : ∀ v ∈ P80 k x, v.oneCell' = true := by
  intro v hv
  obtain ⟨l, hl, hv⟩ := List.mem_flatten.1 hv
  rw [(List.mem_replicate.1 hl).2, c80] at hv
  simp only [List.mem_cons, List.not_mem_nil, or_false] at hv
  rcases hv with rfl | rfl | rfl | rfl <;> rfl
theorem P80_reps (M : S80 → List Value → Prop) (k : Nat) (x : S80) (h : M x (c80 x)) : Reps M 4 (List.replicate k x) (P80 k x) := by
  induction k with
  | zero => exact Reps.none _ _
  | succ k ih =>
    rw [show List.replicate (k + 1) x = List.replicate k x ++ [x] from List.replicate_succ', ← P80_add k 1 x, show P80 1 x = c80 x by simp [P80]]
    exact Reps.snoc ih h rfl
def row80 (k n : Nat) (x : S80) : List Value := P80 k x ++ P80 (n - k) z80
theorem row80_len (k n : Nat) (x : S80) (h : k ≤ n) : (row80 k n x).length = n * 4 := by rw [row80, List.length_append, P80_len, P80_len]; omega
theorem row80_put (k m n : Nat) (x : S80) (h : k + m ≤ n) : (row80 k n x).take (k * 4) ++ P80 m x ++ (row80 k n x).drop (k * 4 + m * 4) = row80 (k + m) n x := by
  have h1 := P80_len k x
  have h2 : P80 (n - k) z80 = P80 m z80 ++ P80 (n - (k + m)) z80 := by rw [P80_add]; congr 1; omega
  rw [row80, List.take_left' h1, P80_add, row80, ← List.drop_drop, List.drop_left' h1, h2, List.drop_left' (P80_len m z80)]
theorem row80_at (k m n : Nat) (x : S80) (h : m ≤ k) (j : Nat) (v : Value) (hv : (P80 m x)[j]? = some v) : (row80 k n x)[j]? = some v := by
  have hj : j < m * 4 := by rw [← P80_len m x]; exact (List.getElem?_eq_some_iff.1 hv).1
  rw [row80, show k = m + (k - m) by omega, ← P80_add, List.append_assoc, List.getElem?_append_left (by rw [P80_len]; exact hj)]
  exact hv
structure Row80 (B g k n : Nat) (x : S80) (w0 w : World) : Prop where
  blk : w.heap[g]? = some (.cells (row80 k n x).toArray 58 (0, 0))
  ge : B ≤ g
  below : Below B w0 w
theorem Row80.put {B g k m n : Nat} {x : S80} {w0 w : World} (h : Row80 B g k n x w0 w) (hm : k + m ≤ n) : Row80 B g (k + m) n x w0 (w.setRow g ((row80 k n x).toArray.toList.take (k * 4) ++ P80 m x ++ (row80 k n x).toArray.toList.drop (k * 4 + (P80 m x).length)).toArray) :=
  ⟨by rw [← row80_put k m n x hm, P80_len]; exact setRow_heap w g _ _ 58 _ h.blk, h.ge, below_setRow h.below h.ge _⟩
theorem Row80.R {B g n : Nat} {x : S80} {w0 w : World} (h : Row80 B g n n x w0 w) (hn : n ≤ 100) : Kd.R k80 58 w B (fun _ => True) (.slice (some ⟨g, 0, none⟩) n n) (List.replicate n x) := by
  have hl := row80_len n n x (Nat.le_refl _)
  have e : row80 n n x = P80 n x := by simp [row80, P80]
  refine ⟨fun _ _ => trivial, P80 n x, ⟨by rw [P80_len, List.length_replicate]; rfl, .inr ⟨g, n, _, by rw [List.length_replicate], h.ge, h.blk, by rw [List.length_replicate]; exact Nat.le_refl _, by simp [maxLen]; omega, by simp [hl]; rfl, ?_⟩⟩, P80_reps _ n x (k80_mkM w B _ x)⟩
  rw [List.length_replicate, e]
  exact List.take_of_length_le (by rw [P80_len]; exact Nat.le_refl _)
section
variable {ops : Array Oper} {Q : Exit → Act → World → Prop} {o : Oper} {rest : List Oper} {b : Act} {W : World} {s s2 : Tmp}
theorem cp_run {B g k n m c sl sc : Nat} {a : Addr} {x : S80} {w0 : World} (ho : o.op = .call { callee := .builtin .copy, args := #[.tmp s, .tmp s2], argTypes := #[31, 31] }) (hd : b.eval (.tmp s) = .slice (some ⟨g, k * 4, none⟩) (n - k) c) (hs : b.eval (.tmp s2) = .slice (some a) sl sc) (hr : Row80 B g k n x w0 W) (hm : m = Nat.min sl (n - k)) (hsrc : ∀ j v, (P80 m x)[j]? = some v → W.cell? (a.add j) = some v) (hk : k ≤ n) :
    ∃ W', (execOp b.eval o).run Tryz.prog W = .ok (.value (goInt m)) W' ∧ Row80 B g (k + m) n x w0 W' := by
  have h9 : Nat.min sl (n - k) ≤ n - k := Nat.min_le_right _ _
  rw [← hm] at h9
  have hle : k + m ≤ n := by omega
  have hrun := run_copy4 (P := Tryz.prog) W 31 31 o.type 58 g (k * 4) (n - k) c a sl sc (row80 k n x).toArray 58 (P80 m x) Tryz.underlying31 (by kernel_rfl) hr.blk (by rw [P80_len, hm]) hsrc (by rw [P80_len]; simp [row80_len k n x hk]; omega) (P80_one m x)
  refine ⟨_, ?_, hr.put hle⟩
  unfold execOp
  simp [ho, resolve, invoke, builtin, hd, hs, hrun, Result.andThen, ← hm]
end
theorem made80 (n : Nat) (hn : n ≤ 4) (x : S80) : madeCells (Value.agg #[.int .i64 0, .int .i64 0, .int .i64 0, .bool false]).cells (n * 4) = (row80 0 n x).toArray := by
  have e : row80 0 n x = P80 n z80 := by simp [row80, P80]
  rw [e]
  obtain rfl | rfl | rfl | rfl | rfl : n = 0 ∨ n = 1 ∨ n = 2 ∨ n = 3 ∨ n = 4 := by omega
  all_goals (apply Array.toList_inj.1; simp [madeCells, P80, c80, z80, Value.cells, List.range_succ, Array.toList_map, Array.toList_range])
section
variable {ops : Array Oper} {Q : Exit → Act → World → Prop} {o : Oper} {rest : List Oper} {b : Act} {W : World} {s s2 : Tmp}
theorem mk_ev {n B : Nat} {w0 : World} (x : S80) (hg : o.guard = none) (ho : o.op = .makeSlice 31 (.tmp s) (.tmp s)) (hx : b.eval (.tmp s) = .int .i64 n) (hn : n ≤ 4) (hB : Below B w0 W) (hb : B ≤ W.heap.size)
    (K : ∀ W' g, Row80 B g 0 n x w0 W' → Below W.heap.size W W' → W.heap.size ≤ g → wpList Tryz.prog ops Q rest (b.put o.dst (.slice (some ⟨g, 0, none⟩) n n)) W') : wpList Tryz.prog ops Q (o :: rest) b W := by
  refine wpList_plain hg fun K1 hK => ?_
  have hi : (Tryz.prog.info? 58).map (fun i => (i.zero, i.size, i.bytes)) = some (some (.agg #[.int .i64 0, .int .i64 0, .int .i64 0, .bool false]), 4, 32) := by kernel_rfl
  obtain ⟨i0, hi, hzz⟩ := Option.map_eq_some_iff.1 hi
  simp only [Prod.mk.injEq] at hzz
  obtain ⟨hz0, hz1, hz2⟩ := hzz
  have hr := run_make (P := Tryz.prog) W 31 58 i0 _ Tryz.underlying31 hi hz0 .i64 .i64 (n : Int) (n : Int) (by omega) (by omega) (by rw [hz2]; omega) (by omega)
  simp only [Int.toNat_natCast] at hr
  rw [hz1, made80 n hn x] at hr
  have q := hK _ _ (K _ W.heap.size ⟨heap_alloc_new W _, hb, hB.trans ((below_alloc (Below.refl _ _) _).mono hb)⟩ (below_alloc (Below.refl _ _) _) (Nat.le_refl _))
  unfold Oper.wp
  simp [execOp, ho, hx, hr, Result.andThen]
  exact q
theorem cp_ev {B g k n m c sl sc : Nat} {a : Addr} {x : S80} {w0 : World} (hg : o.guard = none) (ho : o.op = .call { callee := .builtin .copy, args := #[.tmp s, .tmp s2], argTypes := #[31, 31] }) (hd : b.eval (.tmp s) = .slice (some ⟨g, k * 4, none⟩) (n - k) c) (hs : b.eval (.tmp s2) = .slice (some a) sl sc) (hr : Row80 B g k n x w0 W) (hm : m = Nat.min sl (n - k)) (hsrc : ∀ j v, (P80 m x)[j]? = some v → W.cell? (a.add j) = some v) (hk : k ≤ n)
    (K : ∀ W', Row80 B g (k + m) n x w0 W' → wpList Tryz.prog ops Q rest (b.put o.dst (goInt m)) W') : wpList Tryz.prog ops Q (o :: rest) b W := by
  refine wpList_plain hg fun K1 hK => ?_
  obtain ⟨W', hr1, hr2⟩ := cp_run ho hd hs hr hm hsrc hk
  have q := hK _ _ (K W' hr2)
  unfold Oper.wp
  simp [hr1, Result.andThen]
  exact q
theorem cp_one {B g k n m c sl sc : Nat} {a : Addr} {x : S80} {w0 : World} {K : Act → World → Prop} (hw : Region.wanted o (yielded ops b.tmps) = true) (ho : o.op = .call { callee := .builtin .copy, args := #[.tmp s, .tmp s2], argTypes := #[31, 31] }) (hd : b.eval (.tmp s) = .slice (some ⟨g, k * 4, none⟩) (n - k) c) (hs : b.eval (.tmp s2) = .slice (some a) sl sc) (hr : Row80 B g k n x w0 W) (hm : m = Nat.min sl (n - k)) (hsrc : ∀ j v, (P80 m x)[j]? = some v → W.cell? (a.add j) = some v) (hk : k ≤ n)
    (hK : ∀ W', Row80 B g (k + m) n x w0 W' → K (b.put o.dst (.int .i64 (m : Int))) W') : if Region.wanted o (yielded ops b.tmps) = true then Oper.wp Tryz.prog o b W K Q else K (b.put o.dst undef) W := by
  obtain ⟨W', hr1, hr2⟩ := cp_run ho hd hs hr hm hsrc hk
  exact value_ hw rfl hr1 (hK W' hr2)
end
theorem src80 {W : World} {ad : Addr} {x : S80} (h0 : W.cell? ad = some (.int .i64 x.f0)) (h1 : W.cell? ⟨ad.block, ad.off + 1, none⟩ = some (.int .i64 x.f1)) (h2 : W.cell? ⟨ad.block, ad.off + 2, none⟩ = some (.int .i64 x.f2)) (h3 : W.cell? ⟨ad.block, ad.off + 3, none⟩ = some (.bool x.f3)) (j : Nat) (v : Value) (hv : (P80 1 x)[j]? = some v) : W.cell? (ad.add j) = some v := by
  have e : P80 1 x = [.int .i64 x.f0, .int .i64 x.f1, .int .i64 x.f2, .bool x.f3] := by simp [P80, c80]
  rw [e] at hv
  match j, hv with
  | 0, hv => cases hv; exact h0
  | 1, hv => cases hv; exact h1
  | 2, hv => cases hv; exact h2
  | 3, hv => cases hv; exact h3
theorem own80 {B g k n m : Nat} {x : S80} {w0 W : World} (hr : Row80 B g k n x w0 W) (hm : m ≤ k) (j : Nat) (v : Value) (hv : (P80 m x)[j]? = some v) : W.cell? ((⟨g, 0, none⟩ : Addr).add j) = some v := by
  rw [show (⟨g, 0, none⟩ : Addr).add j = ⟨g, j, none⟩ by unfold Addr.add; split <;> simp_all, blk_cell hr.blk, List.getElem?_toArray]
  exact row80_at k m n x hm j v hv
def repT : Bool × List (List Nat × List Nat) := (true, [([], []), ([], []), ([], []), ([1, 2], [1, 2]), ([], []), ([], []), ([4, 5], [4, 5]), ([3, 6], [3, 6]), ([0, 7], [0, 7]), ([8, 7, 0, 1, 2, 3, 4, 5, 6, 7, 8], [0, 2, 5, 8])])
theorem repT_tab : rtab .any (opsOf Tryz.f36 9) = repT := by kernel_rfl
theorem repeat_is (n : Nat) (h1 : 1 ≤ n) (h4 : n ≤ 4) (ad : Addr) (c : Nat) (x : S80) (w : World) (q0 : w.cell? ad = some (.int .i64 x.f0)) (q1 : w.cell? ⟨ad.block, ad.off + 1, none⟩ = some (.int .i64 x.f1)) (q2 : w.cell? ⟨ad.block, ad.off + 2, none⟩ = some (.int .i64 x.f2)) (q3 : w.cell? ⟨ad.block, ad.off + 3, none⟩ = some (.bool x.f3)) : Calls Tryz.prog 36 #[.slice (some ad) 1 c, .int .i64 n] w fun e w' => ∃ v, e = .returned v ∧ Kd.R k80 58 w' w.heap.size (fun _ => True) v (List.replicate n x) ∧ Below w.heap.size w w' := by
  have HQ := Aside0.mk (And.intro q0 (And.intro q1 (And.intro q2 q3)))
  have HB := Aside0.mk (Below.refl w.heap.size w)
  clear q0 q1 q2 q3
  have e0 : ¬ ((n : Int) < 0) := by omega
  have e1 : IntKind.u64.wrap (n : Int) = n := IntWalk.u64_in _ (by omega)
  have e2 : IntKind.i64.wrap (n : Int) = n := IntWalk.i64_in _ (by omega)
  have e3 : decide ((n : Int) > 9223372036854775807) = false := decide_eq_false (by omega)
  have e4 : ¬ (9223372036854775807 < (n : Int)) := by omega
  have e5 : decide (9223372036854775807 < (n : Int)) = false := decide_eq_false (by omega)
  go_enter Tryz.func36, Tryz.ntmps36
  go_upto_region 6 with (go_at_call 61; refine (mul_is n h4 _).mono ?_; rintro e w1 ⟨rfl, hq⟩; have hq2 := hq.symm; subst hq2)
  have q0 := HQ.out.1
  go_upto_region 7 with ((with_reducible refine gate_dst (N := 30) rfl ?_); refine mk_ev (B := w.heap.size) (w0 := w) x rfl rfl rfl h4 HB.out HB.out.size ?_; intro W2 g hr hb hge; have HR := Aside0.mk hr; have HBX := Aside0.mk hb; clear hr hb hge q0)
  go_upto_region 8 with ((with_reducible refine gate_builtin (b := .copy) (xs := #[.tmp 31, .tmp 32]) rfl ?_); refine cp_ev (k := 0) (m := 1) rfl rfl rfl rfl HR.out ?hm (src80 (swB HBX.out HQ.out.1) (swB HBX.out HQ.out.2.1) (swB HBX.out HQ.out.2.2.1) (swB HBX.out HQ.out.2.2.2)) (Nat.zero_le _) ?_; (case hm => show 1 = Nat.min 1 (n - 0); rw [Nat.sub_zero]; exact (Nat.min_eq_left h1).symm); intro W3 hr; have HR3 := Aside0.mk hr; clear hr)
  clear HQ HB HBX e0 e1 e2 e3 e4 e5
  go_loopg [8] n (fun gg v8 wr => ∃ k : Nat, v8 = .int .i64 k ∧ 1 ≤ k ∧ k ≤ n ∧ n - k ≤ gg ∧ Aside0 (Row80 w.heap.size g k n x w wr))
  case atStart => exact ⟨1, rfl, Nat.le_refl _, h1, by omega, HR3⟩
  case round =>
    clear HR3
    obtain ⟨k, rfl, hk1, hkn, hgk, HR⟩ := hrel
    by_cases hlt : k < n
    · have hltz : (k : Int) < (n : Int) := by omega
      obtain ⟨rfl, rfl⟩ | ⟨rfl, rfl⟩ | ⟨rfl, rfl⟩ | ⟨rfl, rfl⟩ | ⟨rfl, rfl⟩ | ⟨rfl, rfl⟩ : (k = 1 ∧ n = 2) ∨ (k = 1 ∧ n = 3) ∨ (k = 1 ∧ n = 4) ∨ (k = 2 ∧ n = 3) ∨ (k = 2 ∧ n = 4) ∨ (k = 3 ∧ n = 4) := by omega
      all_goals
        go_upto_region 9 with fail
        have HR2 := Aside0.mk (show Row80 w.heap.size g _ _ x w wr.drew from ⟨blk_drew HR.out.blk, HR.out.ge, below_drew1 HR.out.below⟩)
        clear HR
        refine start_ (n := 10) (S := fun _ => True) (ds := []) (bA 10 0) (by kernel_rfl) rfl rfl trivial (fun _ => ?_)
        have HT_ := Aside0.mk repT_tab
        generalize wr.drew = wx at HR2 ⊢
        refine pure_ (i := 0) (N := some 38) (bA 10 1) rfl rfl (any_of HT_.out (by kernel_rfl)) (fun _ _ _ h => h) (.inl ⟨by rfl, by intro w'; go_simp; with_reducible rfl⟩) (by simp only [Act.put, sb0, sb1, sb2, i64_w, i32_w]; rfl) ?_
        refine pure_ (i := 1) (N := some 39) (bA 10 3) rfl rfl (any_of HT_.out (by kernel_rfl)) (fun _ _ _ h => h) (.inl ⟨by rfl, by intro w'; go_simp; with_reducible rfl⟩) (by simp only [Act.put, sb0, sb1, sb2, i64_w, i32_w]; rfl) ?_
        refine pure_ (i := 2) (N := some 40) (bA 10 7) rfl rfl (any_of HT_.out (by kernel_rfl)) (fun _ _ _ h => h) (.inl ⟨by rfl, by intro w'; go_simp; with_reducible rfl⟩) (by simp only [Act.put, sb0, sb1, sb2, i64_w, i32_w]; rfl) ?_
        refine pure_ (i := 4) (N := some 42) (bA 10 23) rfl rfl (any_of HT_.out (by kernel_rfl)) (fun _ _ _ h => h) (.inl ⟨by rfl, by intro w'; go_simp; with_reducible rfl⟩) (by simp only [Act.put, sb0, sb1, sb2, i64_w, i32_w]; rfl) ?_
        refine pure_ (i := 5) (N := some 43) (bA 10 55) rfl rfl (any_of HT_.out (by kernel_rfl)) (fun _ _ _ h => h) (.inl ⟨by rfl, by intro w'; go_simp; with_reducible rfl⟩) (by simp only [Act.put, sb0, sb1, sb2, i64_w, i32_w]; rfl) ?_
        refine pure_ (i := 3) (N := some 41) (bA 10 63) rfl rfl (any_of HT_.out (by kernel_rfl)) (fun _ _ _ h => h) (.inl ⟨by rfl, by intro w'; go_simp; with_reducible rfl⟩) (by simp only [Act.put, sb0, sb1, sb2, i64_w, i32_w]; rfl) ?_
        refine pure_ (i := 6) (N := some 44) (bA 10 127) rfl rfl (any_of HT_.out (by kernel_rfl)) (fun _ _ _ h => h) (.inl ⟨by rfl, by intro w'; go_simp; with_reducible rfl⟩) (by simp only [Act.put, sb0, sb1, sb2, i64_w, i32_w]; rfl) ?_
        refine one_ (i := 7) (N := some 45) (bA 10 255) rfl rfl (one_of HT_.out (by kernel_rfl)) (by decide) (fun K hK => ?_)
        first
          | refine cp_one (m := 1) (by rfl) rfl rfl rfl HR2.out (by rfl) (own80 HR2.out (by decide)) (by decide) (fun W4 hr => ?_)
          | refine cp_one (m := 2) (by rfl) rfl rfl rfl HR2.out (by rfl) (own80 HR2.out (by decide)) (by decide) (fun W4 hr => ?_)
        have HR4 := Aside0.mk hr
        clear hr
        refine hK.out _ _ trivial (fun _ => ?_)
        clear hK K
        refine norm_ (a' := ?_) ?_ ?_
        rotate_left
        · show Act.put _ (some 45) _ = _
          simp only [Act.put, sb0, sb1, sb2, i64_w, i32_w]
          rfl
        refine pure_ (i := 8) (N := some 46) (bA 10 511) rfl rfl (any_of HT_.out (by kernel_rfl)) (fun _ _ _ h => h) (.inl ⟨by rfl, by intro w'; go_simp; with_reducible rfl⟩) (by simp only [Act.put, sb0, sb1, sb2, i64_w, i32_w]; rfl) ?_
        refine pure_ (i := 9) (N := some 8) (bA 10 1023) rfl rfl (any_of HT_.out (by kernel_rfl)) (fun _ _ _ h => h) (.inl ⟨by rfl, by intro w'; go_simp; with_reducible rfl⟩) (by simp only [Act.put, sb0, sb1, sb2, i64_w, i32_w]; rfl) ?_
        refine done_ (done_of HT_.out (by kernel_rfl)) ?_
        go_wp2
        go_roundg (gk - 1)
        case measure => omega
        case rel => exact ⟨_, congrArg (Value.int .i64) (by unfold wrap64; decide), by decide, by decide, by omega, HR4⟩
    · obtain rfl : k = n := by omega
      go_wp2
      go_ret
      exact ⟨_, rfl, HR.out.R (by omega), HR.out.below⟩
end Go.Proofs.YtgibacfgjmdjdaaGreat.PFnExactIsStable
end
section
namespace Go.Proofs.YtgibacfgjmdjdaaGreat.PFnExactIsStable
open Go.RowKit Go.Proofs.YtgibacfgjmdjdaaGreatW.PrintWords Go.Proofs.YtgibacfgjmdjdaaGreatW.PrintLast Go.Proofs.YtgibacfgjmdjdaaGreatW.PrintMore
attribute [local go_sem] max2_int min2_int max_two min_two max_three min_three max_four min_four   -- for this text's walks alone
set_option linter.unusedVariables false
set_option linter.unusedSimpArgs false
set_option maxHeartbeats 8000000
set_option maxRecDepth 100000
def stepI (k : Nat) (q0 : List ByteArray) (q1 : List S92) (q2 : List Int) (q3 : List Int) (q4 : List S95) (q5 : List S97) (l1 : List Int) (l2 : List Bool) : Nat → List S80 → Option (List S80)
  | 0, rs => some rs
  | m + 1, rs => (impl_bestRoutes.f k q0 q1 q2 q3 q4 q5 l1 l2 rs).bind fun nx => (impl_Route.f k nx rs).bind fun b => if b = true then some rs else stepI k q0 q1 q2 q3 q4 q5 l1 l2 m nx
def impl_Settle.f (k : Nat) (q0 : List ByteArray) (q1 : List S92) (q2 : List Int) (q3 : List Int) (q4 : List S95) (q5 : List S97) (l1 : List Int) (l2 : List Bool) (n : Int) : Option (List S80 × Int) :=
  (impl_routesCode.f k q0 q1 q2 q3 q4 q5 l1 l2 [] false).bind fun c => if ¬ c = 0 then some ([], c) else (impl_within.f n 0 100).bind fun t => if t = false then some ([], 5) else if (0 ≤ n ∧ n ≤ 100) ∧ 1 ≤ q0.length ∧ q0.length ≤ 4 then (stepI k q0 q1 q2 q3 q4 q5 l1 l2 n.toNat (List.replicate q0.length ⟨-3, 0, 0, false⟩)).bind fun rs => (impl_isStable.f k q0 q1 q2 q3 q4 q5 l1 l2 rs).bind fun b => if b = true then some (rs, 0) else some ([], 8) else none
theorem impl_Settle.calls (k : Nat) (A0 : Option Addr) (c0 : Nat) (q0 : List ByteArray) (A1 : Option Addr) (c1 : Nat) (q1 : List S92) (A2 : Option Addr) (c2 : Nat) (q2 : List Int) (A3 : Option Addr) (c3 : Nat) (q3 : List Int) (A4 : Option Addr) (c4 : Nat) (q4 : List S95) (A5 : Option Addr) (c5 : Nat) (q5 : List S97) (A6 : Option Addr) (c6 : Nat) (l1 : List Int) (A7 : Option Addr) (c7 : Nat) (l2 : List Bool) (n : Int) (r : List S80) (q : Int) (w : World) (hr0 : Kd.C Kd.string w A0 q0.length q0) (hc0 : q0.length ≤ c0) (hr1 : Kd.C k92 w A1 q1.length q1) (hc1 : q1.length ≤ c1) (hr2 : Kd.C (Kd.int .i64) w A2 q2.length q2) (hc2 : q2.length ≤ c2) (hr3 : Kd.C (Kd.int .i64) w A3 q3.length q3) (hc3 : q3.length ≤ c3) (hr4 : Kd.C k95 w A4 q4.length q4) (hc4 : q4.length ≤ c4) (hr5 : Kd.C k97 w A5 q5.length q5) (hc5 : q5.length ≤ c5) (hr6 : Kd.C (Kd.int .i64) w A6 l1.length l1) (hc6 : l1.length ≤ c6) (hr7 : Kd.C Kd.bool w A7 l2.length l2) (hc7 : l2.length ≤ c7) (h : impl_Settle.f k q0 q1 q2 q3 q4 q5 l1 l2 n = some (r, q)) :
    Calls Tryz.prog 9 #[.agg #[.slice A0 q0.length c0, .slice A1 q1.length c1, .slice A2 q2.length c2, .slice A3 q3.length c3, .slice A4 q4.length c4, .slice A5 q5.length c5], .slice A6 l1.length c6, .slice A7 l2.length c7, .int .i64 n] w fun e w' => ∃ v, e = .returned (.tuple #[v, .int .i64 q]) ∧ Kd.R k80 58 w' w.heap.size (fun _ => True) v r ∧ Below w.heap.size w w' := by
  have hu38 := Tryz.underlying38
  have hu80 := Tryz.underlying58
  unfold impl_Settle.f at h
  obtain ⟨c, hco, h⟩ := Option.bind_eq_some_iff.1 h
  have hcode : ∀ W, Below w.heap.size w W → Calls Tryz.prog 34 #[.agg #[.slice A0 q0.length c0, .slice A1 q1.length c1, .slice A2 q2.length c2, .slice A3 q3.length c3, .slice A4 q4.length c4, .slice A5 q5.length c5], .slice A6 l1.length c6, .slice A7 l2.length c7, .slice none 0 0, .bool false] W fun e w' => e = .returned (.int .i64 c) ∧ Below W.heap.size W w' := fun W hb => impl_routesCode.calls k A0 c0 q0 A1 c1 q1 A2 c2 q2 A3 c3 q3 A4 c4 q4 A5 c5 q5 A6 c6 l1 A7 c7 l2 none 0 [] false c W (Kd.C_below hr0 hb) hc0 (Kd.C_below hr1 hb) hc1 (Kd.C_below hr2 hb) hc2 (Kd.C_below hr3 hb) hc3 (Kd.C_below hr4 hb) hc4 (Kd.C_below hr5 hb) hc5 (Kd.C_below hr6 hb) hc6 (Kd.C_below hr7 hb) hc7 ⟨rfl, by simp, fun h => absurd h (by simp)⟩ (Nat.zero_le _) hco
  have hbest := fun W (hb : Below w.heap.size w W) A c rs (h3 : Kd.C k80 W A rs.length rs) (hc : rs.length ≤ c) nx h => impl_bestRoutes.calls k A0 c0 q0 A1 c1 q1 A2 c2 q2 A3 c3 q3 A4 c4 q4 A5 c5 q5 A6 c6 l1 A7 c7 l2 A c rs nx W (Kd.C_below hr0 hb) hc0 (Kd.C_below hr1 hb) hc1 (Kd.C_below hr2 hb) hc2 (Kd.C_below hr3 hb) hc3 (Kd.C_below hr4 hb) hc4 (Kd.C_below hr5 hb) hc5 (Kd.C_below hr6 hb) hc6 (Kd.C_below hr7 hb) hc7 h3 hc h
  have hsta := fun W (hb : Below w.heap.size w W) A c rs (h3 : Kd.C k80 W A rs.length rs) (hc : rs.length ≤ c) b h => impl_isStable.calls k A0 c0 q0 A1 c1 q1 A2 c2 q2 A3 c3 q3 A4 c4 q4 A5 c5 q5 A6 c6 l1 A7 c7 l2 A c rs b W (Kd.C_below hr0 hb) hc0 (Kd.C_below hr1 hb) hc1 (Kd.C_below hr2 hb) hc2 (Kd.C_below hr3 hb) hc3 (Kd.C_below hr4 hb) hc4 (Kd.C_below hr5 hb) hc5 (Kd.C_below hr6 hb) hc6 (Kd.C_below hr7 hb) hc7 h3 hc h
  clear hco
  have HCO := Aside0.mk hcode
  have HBE := Aside0.mk hbest
  have HST := Aside0.mk hsta
  clear hcode hbest hsta hr0 hr1 hr2 hr3 hr4 hr5 hr6 hr7
  obtain ⟨g, hg⟩ : ∃ g, w.heap.size = g := ⟨_, rfl⟩
  go_enter Tryz.func9, Tryz.ntmps9
  go_upto_region 1 with fail
  have hb2 : Below w.heap.size w (w.alloc (.cells #[.slice A0 q0.length c0, .slice A1 q1.length c1, .slice A2 q2.length c2, .slice A3 q3.length c3, .slice A4 q4.length c4, .slice A5 q5.length c5] 38)) := below_alloc (Below.refl _ _) _
  have k1 : (w.alloc (.cells #[.slice A0 q0.length c0, .slice A1 q1.length c1, .slice A2 q2.length c2, .slice A3 q3.length c3, .slice A4 q4.length c4, .slice A5 q5.length c5] 38)).heap[g]? = some (.cells #[.slice A0 q0.length c0, .slice A1 q1.length c1, .slice A2 q2.length c2, .slice A3 q3.length c3, .slice A4 q4.length c4, .slice A5 q5.length c5] 38 (0, 0)) := by rw [← hg]; exact blk_new w _
  generalize w.alloc (.cells #[.slice A0 q0.length c0, .slice A1 q1.length c1, .slice A2 q2.length c2, .slice A3 q3.length c3, .slice A4 q4.length c4, .slice A5 q5.length c5] 38) = wq at hb2 k1 ⊢
  have HG := Aside0.mk k1
  have HB := Aside0.mk hb2
  clear hg hb2 k1
  have y0 := (blk_cell HG.out 0).trans (show _ = some (Value.slice A0 q0.length c0) from rfl)
  have y1 := (blk_cell HG.out 1).trans (show _ = some (Value.slice A1 q1.length c1) from rfl)
  have y2 := (blk_cell HG.out 2).trans (show _ = some (Value.slice A2 q2.length c2) from rfl)
  have y3 := (blk_cell HG.out 3).trans (show _ = some (Value.slice A3 q3.length c3) from rfl)
  have y4 := (blk_cell HG.out 4).trans (show _ = some (Value.slice A4 q4.length c4) from rfl)
  have y5 := (blk_cell HG.out 5).trans (show _ = some (Value.slice A5 q5.length c5) from rfl)
  by_cases hc : c = 0
  rotate_left
  · rw [if_pos hc] at h
    have hcb : (c != 0) = true := by simpa using hc
    cases h
    go_wp2_with (go_at_call 34; refine (HCO.out _ HB.out).mono ?_; rintro e w1 ⟨rfl, hb⟩; have HB9 := Aside0.mk (HB.out.trans (hb.mono HB.out.size)); clear hb HB HG y0 y1 y2 y3 y4 y5)
    go_ret2
    exact ⟨_, rfl, Kd.R_nil _ _ _ _ _, HB9.out⟩
  rw [if_neg (by simpa using hc)] at h
  subst hc
  obtain ⟨t, ht, h⟩ := Option.bind_eq_some_iff.1 h
  go_upto_region 4 with (go_at_call 34; refine (HCO.out _ HB.out).mono ?_; rintro e w1 ⟨rfl, hb⟩; have m0_ := Aside0.mk (HB.out.trans (hb.mono HB.out.size)); have m1_ := Aside0.mk (blk_below HG.out hb); clear HB HG; have HB := m0_; have HG := m1_; clear m0_ m1_; clear hb y0 y1 y2 y3 y4 y5)
  cases t with
  | false =>
    rw [if_pos rfl] at h
    cases h
    go_wp2_with (go_at_call 35; refine (impl_within.calls n 0 100 false _ ht).mono ?_; rintro e w2 ⟨rfl, hq⟩; have hb := hq.below; have m0_ := Aside0.mk (HB.out.trans (hb.mono HB.out.size)); have m1_ := Aside0.mk (blk_below HG.out hb); clear HB HG; have HB := m0_; have HG := m1_; clear m0_ m1_; clear hb hq)
    go_ret2
    exact ⟨_, rfl, Kd.R_nil _ _ _ _ _, HB.out⟩
  | true =>
    rw [if_neg (by decide)] at h
    rcases Classical.em (¬ ((0 ≤ n ∧ n ≤ 100) ∧ 1 ≤ q0.length ∧ q0.length ≤ 4)) with hn | hn
    · rw [if_neg hn] at h; cases h
    replace hn := Classical.not_not.1 hn
    rw [if_pos hn] at h
    obtain ⟨⟨hn0, hn1⟩, hq0, hq1⟩ := hn
    obtain ⟨m, hm⟩ : ∃ m : Nat, n = m := ⟨n.toNat, by omega⟩
    subst hm
    rw [Int.toNat_natCast] at h
    obtain ⟨rf, hrf, h⟩ := Option.bind_eq_some_iff.1 h
    obtain ⟨b, hs, h⟩ := Option.bind_eq_some_iff.1 h
    have HRF := Aside0.mk hrf
    have HS := Aside0.mk hs
    have HH := Aside0.mk h
    clear hrf hs h
    go_upto_region 6 with (go_at_call 35; refine (impl_within.calls m 0 100 true _ ht).mono ?_; rintro e w2 ⟨rfl, hq⟩; have hb := hq.below; have m0_ := Aside0.mk (HB.out.trans (hb.mono HB.out.size)); have m1_ := Aside0.mk (blk_below HG.out hb); clear HB HG; have HB := m0_; have HG := m1_; clear m0_ m1_; clear hb hq)
    have y0 := (blk_cell HG.out 0).trans (show _ = some (Value.slice A0 q0.length c0) from rfl)
    have hgs := blk_lt HG.out
    go_upto_region 7 with (go_at_call 36; refine (repeat_is q0.length hq0 hq1 _ _ (⟨-3, 0, 0, false⟩ : S80) _ ((blk_cell (blk_new w2 _) 0).trans rfl) ((blk_cell (blk_new w2 _) 1).trans rfl) ((blk_cell (blk_new w2 _) 2).trans rfl) ((blk_cell (blk_new w2 _) 3).trans rfl)).mono ?_; rintro e w3 ⟨v11, rfl, hR, hb3⟩; have hb : Below w2.heap.size w2 w3 := (below_alloc (Below.refl _ _) _).trans (hb3.mono (below_alloc (Below.refl _ _) _).size); have HO := Aside0.mk (Kd.R_lower hR (Nat.le_trans HB.out.size (below_alloc (Below.refl w2.heap.size w2) _).size)); have m0_ := Aside0.mk (HB.out.trans (hb.mono HB.out.size)); have m1_ := Aside0.mk (blk_below HG.out hb); clear HB HG; have HB := m0_; have HG := m1_; clear m0_ m1_; clear hb hb3 hR y0 hgs)
    go_wp2
    go_loopg [11, 30] m (fun gg v11 v30 wr => ∃ (i : Nat) (rs : List S80), v30 = .int .i64 i ∧ i ≤ m ∧ m - i ≤ gg ∧ Aside0 (stepI k q0 q1 q2 q3 q4 q5 l1 l2 (m - i) rs = some rf) ∧ Aside0 (Kd.R k80 58 wr w.heap.size (fun _ => True) v11 rs) ∧ Aside0 (Below w.heap.size w wr) ∧ Aside0 (wr.heap[g]? = some (.cells #[.slice A0 q0.length c0, .slice A1 q1.length c1, .slice A2 q2.length c2, .slice A3 q3.length c3, .slice A4 q4.length c4, .slice A5 q5.length c5] 38 (0, 0))))
    case atStart => exact ⟨0, _, rfl, Nat.zero_le _, by omega, HRF, HO, HB, HG⟩
    case round =>
      clear HRF HO HB HG
      obtain ⟨i, rs, rfl, hi, hgk, HRF, HO, HB, HG⟩ := hrel
      have hsta := HST.out
      by_cases hlt : i < m
      · have hltz : (i : Int) < (m : Int) := by omega
        have ew : IntKind.i64.wrap ((i : Int) + 1) = ((i + 1 : Nat) : Int) := IntWalk.i64_in _ (by omega)
        have hr := HRF.out
        rw [show m - i = (m - (i + 1)) + 1 by omega, stepI] at hr
        obtain ⟨nx, hnx, hr⟩ := Option.bind_eq_some_iff.1 hr
        obtain ⟨t, ht, hr⟩ := Option.bind_eq_some_iff.1 hr
        have HT := Aside0.mk ht
        have HR := Aside0.mk hr
        have HN := Aside0.mk hnx
        clear ht hr hnx HRF
        obtain ⟨AR, cR, eR⟩ := Kd.R_slice HO.out
        subst eR
        have y0 := (blk_cell HG.out 0).trans (show _ = some (Value.slice A0 q0.length c0) from rfl)
        have y1 := (blk_cell HG.out 1).trans (show _ = some (Value.slice A1 q1.length c1) from rfl)
        have y2 := (blk_cell HG.out 2).trans (show _ = some (Value.slice A2 q2.length c2) from rfl)
        have y3 := (blk_cell HG.out 3).trans (show _ = some (Value.slice A3 q3.length c3) from rfl)
        have y4 := (blk_cell HG.out 4).trans (show _ = some (Value.slice A4 q4.length c4) from rfl)
        have y5 := (blk_cell HG.out 5).trans (show _ = some (Value.slice A5 q5.length c5) from rfl)
        go_upto_region 10 with (go_at_call 37; refine (HBE.out _ HB.out AR cR rs (Kd.R_reads' HO.out).2.2 (Kd.R_reads' HO.out).2.1 nx HN.out).mono ?_; rintro e w4 ⟨v4, rfl, hR4, hb⟩; have HO4 := Aside0.mk (Kd.R_lower hR4 HB.out.size); have m2_ := Aside0.mk (Kd.R_below HO.out hb); clear HO; have HO := m2_; clear m2_; have m0_ := Aside0.mk (HB.out.trans (hb.mono HB.out.size)); have m1_ := Aside0.mk (blk_below HG.out hb); clear HB HG; have HB := m0_; have HG := m1_; clear m0_ m1_; clear hb hR4 y0 y1 y2 y3 y4 y5)
        obtain ⟨AX, cX, eX⟩ := Kd.R_slice HO4.out
        subst eX
        cases t with
        | true =>
          have hr := HR.out
          rw [if_pos rfl] at hr
          cases hr
          go_upto_region 13 with (go_at_call 38; refine (impl_Route.calls k AX cX nx AR cR _ true _ (Kd.R_reads' HO4.out).2.2 (Kd.R_reads' HO4.out).2.1 (Kd.R_reads' HO.out).2.2 (Kd.R_reads' HO.out).2.1 HT.out).mono ?_; rintro e w5 ⟨rfl, hq⟩; have hb := hq.below; have m2_ := Aside0.mk (Kd.R_below HO4.out hb); have m3_ := Aside0.mk (Kd.R_below HO.out hb); clear HO4 HO; have HO4 := m2_; have HO := m3_; clear m2_ m3_; have m0_ := Aside0.mk (HB.out.trans (hb.mono HB.out.size)); have m1_ := Aside0.mk (blk_below HG.out hb); clear HB HG; have HB := m0_; have HG := m1_; clear m0_ m1_; clear hb)
          have y0 := (blk_cell HG.out 0).trans (show _ = some (Value.slice A0 q0.length c0) from rfl)
          have y1 := (blk_cell HG.out 1).trans (show _ = some (Value.slice A1 q1.length c1) from rfl)
          have y2 := (blk_cell HG.out 2).trans (show _ = some (Value.slice A2 q2.length c2) from rfl)
          have y3 := (blk_cell HG.out 3).trans (show _ = some (Value.slice A3 q3.length c3) from rfl)
          have y4 := (blk_cell HG.out 4).trans (show _ = some (Value.slice A4 q4.length c4) from rfl)
          have y5 := (blk_cell HG.out 5).trans (show _ = some (Value.slice A5 q5.length c5) from rfl)
          cases b with
          | true =>
            have h := HH.out
            rw [if_pos rfl] at h
            cases h
            go_wp2_with (go_at_call 39; refine (hsta _ HB.out AR cR _ (Kd.R_reads' HO.out).2.2 (Kd.R_reads' HO.out).2.1 true HS.out).mono ?_; rintro e w9 ⟨rfl, hb⟩; have HO9 := Aside0.mk (Kd.R_below HO.out hb); have HB9 := Aside0.mk (HB.out.trans (hb.mono HB.out.size)); clear hb HO HB HG y0 y1 y2 y3 y4 y5)
            go_ret2
            exact ⟨_, rfl, HO9.out, HB9.out⟩
          | false =>
            have h := HH.out
            rw [if_neg (by decide)] at h
            cases h
            go_wp2_with (go_at_call 39; refine (hsta _ HB.out AR cR _ (Kd.R_reads' HO.out).2.2 (Kd.R_reads' HO.out).2.1 false HS.out).mono ?_; rintro e w9 ⟨rfl, hb⟩; have HB9 := Aside0.mk (HB.out.trans (hb.mono HB.out.size)); clear hb HO HB HG y0 y1 y2 y3 y4 y5)
            go_ret2
            exact ⟨_, rfl, Kd.R_nil _ _ _ _ _, HB9.out⟩
        | false =>
          have hr := HR.out
          rw [if_neg (by decide)] at hr
          have HR2 := Aside0.mk hr
          go_wp2_with (go_at_call 38; refine (impl_Route.calls k AX cX nx AR cR rs false _ (Kd.R_reads' HO4.out).2.2 (Kd.R_reads' HO4.out).2.1 (Kd.R_reads' HO.out).2.2 (Kd.R_reads' HO.out).2.1 HT.out).mono ?_; rintro e w5 ⟨rfl, hq⟩; have hb := hq.below; have m2_ := Aside0.mk (Kd.R_below HO4.out hb); have m3_ := Aside0.mk (Kd.R_below HO.out hb); clear HO4 HO; have HO4 := m2_; have HO := m3_; clear m2_ m3_; have m0_ := Aside0.mk (HB.out.trans (hb.mono HB.out.size)); have m1_ := Aside0.mk (blk_below HG.out hb); clear HB HG; have HB := m0_; have HG := m1_; clear m0_ m1_; clear hb)
          go_roundg (gk - 1)
          case measure => omega
          case rel => exact ⟨i + 1, nx, rfl, by omega, by omega, HR2, HO4, HB, HG⟩
      · obtain rfl : i = m := by omega
        have hr := HRF.out
        rw [Nat.sub_self, stepI] at hr
        cases hr
        obtain ⟨AR, cR, eR⟩ := Kd.R_slice HO.out
        subst eR
        go_upto_region 13 with fail
        have y0 := (blk_cell HG.out 0).trans (show _ = some (Value.slice A0 q0.length c0) from rfl)
        have y1 := (blk_cell HG.out 1).trans (show _ = some (Value.slice A1 q1.length c1) from rfl)
        have y2 := (blk_cell HG.out 2).trans (show _ = some (Value.slice A2 q2.length c2) from rfl)
        have y3 := (blk_cell HG.out 3).trans (show _ = some (Value.slice A3 q3.length c3) from rfl)
        have y4 := (blk_cell HG.out 4).trans (show _ = some (Value.slice A4 q4.length c4) from rfl)
        have y5 := (blk_cell HG.out 5).trans (show _ = some (Value.slice A5 q5.length c5) from rfl)
        cases b with
        | true =>
          have h := HH.out
          rw [if_pos rfl] at h
          cases h
          go_wp2_with (go_at_call 39; refine (hsta _ HB.out AR cR _ (Kd.R_reads' HO.out).2.2 (Kd.R_reads' HO.out).2.1 true HS.out).mono ?_; rintro e w9 ⟨rfl, hb⟩; have HO9 := Aside0.mk (Kd.R_below HO.out hb); have HB9 := Aside0.mk (HB.out.trans (hb.mono HB.out.size)); clear hb HO HB HG y0 y1 y2 y3 y4 y5)
          go_ret2
          exact ⟨_, rfl, HO9.out, HB9.out⟩
        | false =>
          have h := HH.out
          rw [if_neg (by decide)] at h
          cases h
          go_wp2_with (go_at_call 39; refine (hsta _ HB.out AR cR _ (Kd.R_reads' HO.out).2.2 (Kd.R_reads' HO.out).2.1 false HS.out).mono ?_; rintro e w9 ⟨rfl, hb⟩; have HB9 := Aside0.mk (HB.out.trans (hb.mono HB.out.size)); clear hb HO HB HG y0 y1 y2 y3 y4 y5)
          go_ret2
          exact ⟨_, rfl, Kd.R_nil _ _ _ _ _, HB9.out⟩
end Go.Proofs.YtgibacfgjmdjdaaGreat.PFnExactIsStable
end
section
namespace Go.Proofs.YtgibacfgjmdjdaaGreat.PFnExactIsStable
open Go.RowKit Go.Proofs.YtgibacfgjmdjdaaGreatW.PrintWords Go.Proofs.YtgibacfgjmdjdaaGreatW.PrintLast Go.Proofs.YtgibacfgjmdjdaaGreatW.PrintMore
attribute [local go_sem] max2_int min2_int max_two min_two max_three min_three max_four min_four   -- for this text's walks alone
set_option linter.unusedVariables false
set_option linter.unusedSimpArgs false
set_option maxHeartbeats 8000000
set_option maxRecDepth 100000
def eqB (y x : S80) : Bool := (y.f0 == x.f0) && ((y.f1 == x.f1) && ((y.f2 == x.f2) && (y.f3 == x.f3)))
def nxtS (k : Nat) (q0 : List ByteArray) (q1 : List S92) (q2 : List Int) (q3 : List Int) (q4 : List S95) (q5 : List S97) (l1 : List Int) (l2 : List Bool) (now : List S80) : List S80 → Int → List S80 → Bool → Option (List S80 × Bool)
  | [], _, nx, sm => some (nx, sm)
  | x :: r, i, nx, sm => (spec_l07Candidates.f k q0 q1 q2 q3 q4 q5 i l1 l2 now).bind fun cs => (spec_l07Best.f k cs).bind fun b => if nx.length ≤ 1000 then nxtS k q0 q1 q2 q3 q4 q5 l1 l2 now r (i + 1) (nx ++ [⟨b.1, b.2.1, b.2.2.1, b.2.2.2⟩]) (sm && eqB ⟨b.1, b.2.1, b.2.2.1, b.2.2.2⟩ x) else none
def rdsS (k : Nat) (q0 : List ByteArray) (q1 : List S92) (q2 : List Int) (q3 : List Int) (q4 : List S95) (q5 : List S97) (l1 : List Int) (l2 : List Bool) : Nat → List S80 → Option (List S80 × Bool)
  | 0, now => some (now, false)
  | m + 1, now => (nxtS k q0 q1 q2 q3 q4 q5 l1 l2 now now 0 [] true).bind fun t => if t.2 = true then some (now, true) else rdsS k q0 q1 q2 q3 q4 q5 l1 l2 m t.1
def spec_Settle.f (k : Nat) (q0 : List ByteArray) (q1 : List S92) (q2 : List Int) (q3 : List Int) (q4 : List S95) (q5 : List S97) (l1 : List Int) (l2 : List Bool) (n : Int) : Option (List S80 × Int) :=
  (spec_l07Env.f k q0 q1 q2 q3 q4 q5 l1 l2).bind fun c => if ¬ c = 0 then some ([], c) else (spec_l01In.f n 0 100).bind fun t => if t = false then some ([], 5) else if (0 ≤ n ∧ n ≤ 100) ∧ q0.length ≤ 1000 then (rdsS k q0 q1 q2 q3 q4 q5 l1 l2 n.toNat (List.replicate q0.length ⟨-3, 0, 0, false⟩)).bind fun rs => if rs.2 = true then some (rs.1, 0) else (spec_l07Stable.f k q0 q1 q2 q3 q4 q5 l1 l2 rs.1).bind fun b => if b = true then some (rs.1, 0) else some ([], 8) else none
def setT20 : Bool × List (List Nat × List Nat) := (true,   [([], []), ([0], [0]), ([1], [1]), ([1], [1]), ([2, 3, 1], [1, 2, 3]), ([4, 1], [1, 4]), ([1], [1]), ([1], [1]),     ([6, 7, 1], [1, 6, 7]), ([8, 1], [1, 8]), ([5, 9, 1], [1, 5, 9]), ([1, 10], [1, 10]),     ([11, 1, 0, 1, 2, 3, 4, 5, 6, 7, 8, 9, 10, 11], [0, 11])]) 
theorem setT20_tab : rtab .any (opsOf Tryz.f5 20) = setT20 := by kernel_rfl
theorem setT20_bits : waitsOk setT20.2 [0, 1, 3, 3, 15, 31, 3, 3, 195, 451, 1023, 2047, 4095] = true := by kernel_rfl
theorem x_eql80 {W : World} {b : Operand → Value} {o : Oper} {y x : S80} {p q : Operand} (ho : o.op = .binOp .eql 58 p q 58) (h1 : b p = .agg #[.int .i64 y.f0, .int .i64 y.f1, .int .i64 y.f2, .bool y.f3]) (h2 : b q = .agg #[.int .i64 x.f0, .int .i64 x.f1, .int .i64 x.f2, .bool x.f3]) : (execOp b o).run Tryz.prog W = .ok (.value (.bool (eqB y x))) W := by
  have hu80 := Tryz.underlying58
  have hu3 := Tryz.underlying3
  have hu4 := Tryz.underlying4
  unfold execOp eqB
  rw [ho]
  simp only [h1, h2]
  go_simp
  by_cases e0 : y.f0 = x.f0 <;> by_cases e1 : y.f1 = x.f1 <;> by_cases e2 : y.f2 = x.f2 <;> by_cases e3 : y.f3 = x.f3 <;> simp [e0, e1, e2, e3]
theorem R80_emp (W : World) (base : Nat) (hb : base ≤ W.heap.size) : Kd.R k80 58 (W.alloc (.cells #[] 58)) base (fun _ => True) (.slice (some ⟨W.heap.size, 0, none⟩) 0 0) [] := ⟨fun _ _ => trivial, [], ⟨by simp, .inr ⟨W.heap.size, 0, #[], rfl, hb, heap_alloc_new W _, Nat.zero_le _, Nat.zero_le _, by simp, by simp⟩⟩, Reps.none _ _⟩
theorem rdlast (nx : List S80) (y : S80) : rd_T80 (nx ++ [y]) (nx.length : Int) = y := by unfold rd_T80; simp [List.getD]
theorem rdnow (now : List S80) (i : Nat) (h : i < now.length) : rd_T80 now (i : Int) = now[i] := by unfold rd_T80; simp [List.getD, h]
theorem spec_Settle.calls (k : Nat) (A0 : Option Addr) (c0 : Nat) (q0 : List ByteArray) (A1 : Option Addr) (c1 : Nat) (q1 : List S92) (A2 : Option Addr) (c2 : Nat) (q2 : List Int) (A3 : Option Addr) (c3 : Nat) (q3 : List Int) (A4 : Option Addr) (c4 : Nat) (q4 : List S95) (A5 : Option Addr) (c5 : Nat) (q5 : List S97) (A6 : Option Addr) (c6 : Nat) (l1 : List Int) (A7 : Option Addr) (c7 : Nat) (l2 : List Bool) (n : Int) (r : List S80) (q : Int) (w : World) (hr0 : Kd.C Kd.string w A0 q0.length q0) (hc0 : q0.length ≤ c0) (hr1 : Kd.C k92 w A1 q1.length q1) (hc1 : q1.length ≤ c1) (hr2 : Kd.C (Kd.int .i64) w A2 q2.length q2) (hc2 : q2.length ≤ c2) (hr3 : Kd.C (Kd.int .i64) w A3 q3.length q3) (hc3 : q3.length ≤ c3) (hr4 : Kd.C k95 w A4 q4.length q4) (hc4 : q4.length ≤ c4) (hr5 : Kd.C k97 w A5 q5.length q5) (hc5 : q5.length ≤ c5) (hr6 : Kd.C (Kd.int .i64) w A6 l1.length l1) (hc6 : l1.length ≤ c6) (hr7 : Kd.C Kd.bool w A7 l2.length l2) (hc7 : l2.length ≤ c7) (h : spec_Settle.f k q0 q1 q2 q3 q4 q5 l1 l2 n = some (r, q)) :
    Calls Tryz.prog 5 #[.agg #[.slice A0 q0.length c0, .slice A1 q1.length c1, .slice A2 q2.length c2, .slice A3 q3.length c3, .slice A4 q4.length c4, .slice A5 q5.length c5], .slice A6 l1.length c6, .slice A7 l2.length c7, .int .i64 n] w fun e w' => ∃ v, e = .returned (.tuple #[v, .int .i64 q]) ∧ Kd.R k80 58 w' w.heap.size (fun _ => True) v r ∧ Below w.heap.size w w' := by
  have hu38 := Tryz.underlying38
  have hu80 := Tryz.underlying58
  unfold spec_Settle.f at h
  obtain ⟨c, hco, h⟩ := Option.bind_eq_some_iff.1 h
  have hcode := fun W (hb : Below w.heap.size w W) => spec_l07Env.calls k A0 c0 q0 A1 c1 q1 A2 c2 q2 A3 c3 q3 A4 c4 q4 A5 c5 q5 A6 c6 l1 A7 c7 l2 c W (Kd.C_below hr0 hb) hc0 (Kd.C_below hr1 hb) hc1 (Kd.C_below hr2 hb) hc2 (Kd.C_below hr3 hb) hc3 (Kd.C_below hr4 hb) hc4 (Kd.C_below hr5 hb) hc5 (Kd.C_below hr6 hb) hc6 (Kd.C_below hr7 hb) hc7 hco
  have hcand := fun W (hb : Below w.heap.size w W) a A c rs (h3 : Kd.C k80 W A rs.length rs) (hc : rs.length ≤ c) nx h => spec_l07Candidates.calls k A0 c0 q0 A1 c1 q1 A2 c2 q2 A3 c3 q3 A4 c4 q4 A5 c5 q5 a A6 c6 l1 A7 c7 l2 A c rs nx W (Kd.C_below hr0 hb) hc0 (Kd.C_below hr1 hb) hc1 (Kd.C_below hr2 hb) hc2 (Kd.C_below hr3 hb) hc3 (Kd.C_below hr4 hb) hc4 (Kd.C_below hr5 hb) hc5 (Kd.C_below hr6 hb) hc6 (Kd.C_below hr7 hb) hc7 h3 hc h
  have hsta := fun W (hb : Below w.heap.size w W) A c rs (h3 : Kd.C k80 W A rs.length rs) (hc : rs.length ≤ c) b h => spec_l07Stable.calls k A0 c0 q0 A1 c1 q1 A2 c2 q2 A3 c3 q3 A4 c4 q4 A5 c5 q5 A6 c6 l1 A7 c7 l2 A c rs b W (Kd.C_below hr0 hb) hc0 (Kd.C_below hr1 hb) hc1 (Kd.C_below hr2 hb) hc2 (Kd.C_below hr3 hb) hc3 (Kd.C_below hr4 hb) hc4 (Kd.C_below hr5 hb) hc5 (Kd.C_below hr6 hb) hc6 (Kd.C_below hr7 hb) hc7 h3 hc h
  clear hco
  have HCO := Aside0.mk hcode
  have HCA := Aside0.mk hcand
  have HST := Aside0.mk hsta
  clear hcode hcand hsta hr0 hr1 hr2 hr3 hr4 hr5 hr6 hr7
  obtain ⟨g, hg⟩ : ∃ g, w.heap.size = g := ⟨_, rfl⟩
  go_enter Tryz.func5, Tryz.ntmps5
  go_upto_region 1 with fail
  have hb2 : Below w.heap.size w (w.alloc (.cells #[.slice A0 q0.length c0, .slice A1 q1.length c1, .slice A2 q2.length c2, .slice A3 q3.length c3, .slice A4 q4.length c4, .slice A5 q5.length c5] 38)) := below_alloc (Below.refl _ _) _
  have k1 : (w.alloc (.cells #[.slice A0 q0.length c0, .slice A1 q1.length c1, .slice A2 q2.length c2, .slice A3 q3.length c3, .slice A4 q4.length c4, .slice A5 q5.length c5] 38)).heap[g]? = some (.cells #[.slice A0 q0.length c0, .slice A1 q1.length c1, .slice A2 q2.length c2, .slice A3 q3.length c3, .slice A4 q4.length c4, .slice A5 q5.length c5] 38 (0, 0)) := by rw [← hg]; exact blk_new w _
  generalize w.alloc (.cells #[.slice A0 q0.length c0, .slice A1 q1.length c1, .slice A2 q2.length c2, .slice A3 q3.length c3, .slice A4 q4.length c4, .slice A5 q5.length c5] 38) = wq at hb2 k1 ⊢
  have HG := Aside0.mk k1
  have HB := Aside0.mk hb2
  clear hg hb2 k1
  have y0 := (blk_cell HG.out 0).trans (show _ = some (Value.slice A0 q0.length c0) from rfl)
  have y1 := (blk_cell HG.out 1).trans (show _ = some (Value.slice A1 q1.length c1) from rfl)
  have y2 := (blk_cell HG.out 2).trans (show _ = some (Value.slice A2 q2.length c2) from rfl)
  have y3 := (blk_cell HG.out 3).trans (show _ = some (Value.slice A3 q3.length c3) from rfl)
  have y4 := (blk_cell HG.out 4).trans (show _ = some (Value.slice A4 q4.length c4) from rfl)
  have y5 := (blk_cell HG.out 5).trans (show _ = some (Value.slice A5 q5.length c5) from rfl)
  by_cases hc : c = 0
  rotate_left
  · rw [if_pos hc] at h
    have hcb : (c != 0) = true := by simpa using hc
    cases h
    go_wp2_with (go_at_call 24; refine (HCO.out _ HB.out).mono ?_; rintro e w1 ⟨rfl, hb⟩; have HB9 := Aside0.mk (HB.out.trans (hb.mono HB.out.size)); clear hb HB HG y0 y1 y2 y3 y4 y5)
    go_ret2
    exact ⟨_, rfl, R80_emp _ _ HB9.out.size, below_alloc HB9.out _⟩
  rw [if_neg (by simpa using hc)] at h
  subst hc
  obtain ⟨t, ht, h⟩ := Option.bind_eq_some_iff.1 h
  go_upto_region 4 with (go_at_call 24; refine (HCO.out _ HB.out).mono ?_; rintro e w1 ⟨rfl, hb⟩; have m0_ := Aside0.mk (HB.out.trans (hb.mono HB.out.size)); have m1_ := Aside0.mk (blk_below HG.out hb); clear HB HG; have HB := m0_; have HG := m1_; clear m0_ m1_; clear hb y0 y1 y2 y3 y4 y5)
  cases t with
  | false =>
    rw [if_pos rfl] at h
    cases h
    go_wp2_with (go_at_call 25; refine (spec_l01In.calls n 0 100 false _ ht).mono ?_; rintro e w2 ⟨rfl, hq⟩; have hb := hq.below; have m0_ := Aside0.mk (HB.out.trans (hb.mono HB.out.size)); have m1_ := Aside0.mk (blk_below HG.out hb); clear HB HG; have HB := m0_; have HG := m1_; clear m0_ m1_; clear hb hq)
    go_ret2
    exact ⟨_, rfl, R80_emp _ _ HB.out.size, below_alloc HB.out _⟩
  | true =>
    rw [if_neg (by decide)] at h
    rcases Classical.em (¬ ((0 ≤ n ∧ n ≤ 100) ∧ q0.length ≤ 1000)) with hn | hn
    · rw [if_neg hn] at h; cases h
    replace hn := Classical.not_not.1 hn
    rw [if_pos hn] at h
    obtain ⟨⟨hn0, hn1⟩, hq0⟩ := hn
    obtain ⟨m, hm⟩ : ∃ m : Nat, n = m := ⟨n.toNat, by omega⟩
    subst hm
    rw [Int.toNat_natCast] at h
    obtain ⟨⟨rf, ef⟩, hrf, h⟩ := Option.bind_eq_some_iff.1 h
    have HRF := Aside0.mk hrf
    have HH := Aside0.mk h
    clear hrf h
    go_upto_region 6 with (go_at_call 25; refine (spec_l01In.calls m 0 100 true _ ht).mono ?_; rintro e w2 ⟨rfl, hq⟩; have hb := hq.below; have m0_ := Aside0.mk (HB.out.trans (hb.mono HB.out.size)); have m1_ := Aside0.mk (blk_below HG.out hb); clear HB HG; have HB := m0_; have HG := m1_; clear m0_ m1_; clear hb hq)
    have hR_ := R80_emp w2 w.heap.size HB.out.size
    have hb : Below w2.heap.size w2 (w2.alloc (.cells #[] 58)) := below_alloc (Below.refl _ _) _
    go_upto_region 7 with fail
    have HO := Aside0.mk hR_
    have m0_ := Aside0.mk (HB.out.trans (hb.mono HB.out.size))
    have m1_ := Aside0.mk (blk_below HG.out hb)
    clear HB HG
    have HB := m0_
    have HG := m1_
    clear m0_ m1_
    clear hb hR_
    generalize w2.alloc (.cells #[] 58) = w3 at HO HB HG ⊢
    go_wp2
    go_loopg [11, 12] q0.length (fun gg v11 v12 wr => ∃ (i : Nat), v12 = .int .i64 i ∧ i ≤ q0.length ∧ q0.length - i ≤ gg ∧ Aside0 (Kd.R k80 58 wr w.heap.size (fun _ => True) v11 (List.replicate i (⟨-3, 0, 0, false⟩ : S80))) ∧ Aside0 (Below w.heap.size w wr) ∧ Aside0 (wr.heap[g]? = some (.cells #[.slice A0 q0.length c0, .slice A1 q1.length c1, .slice A2 q2.length c2, .slice A3 q3.length c3, .slice A4 q4.length c4, .slice A5 q5.length c5] 38 (0, 0))))
    case atStart => exact ⟨0, rfl, Nat.zero_le _, by omega, HO, HB, HG⟩
    case round =>
      clear HO HB HG
      obtain ⟨i, rfl, hi, hgk, HO, HB, HG⟩ := hrel
      have y0 := (blk_cell HG.out 0).trans (show _ = some (Value.slice A0 q0.length c0) from rfl)
      by_cases hlt : i < q0.length
      · have hltz : (i : Int) < (q0.length : Int) := by omega
        have ew : IntKind.i64.wrap ((i : Int) + 1) = ((i + 1 : Nat) : Int) := IntWalk.i64_in _ (by omega)
        go_wp2_with (first
          | (go_at_call 26; refine (spec_l07None.calls (-3) 0 0 false _ rfl).mono ?_; rintro e w4 ⟨rfl, hb⟩; have m2_ := Aside0.mk (Kd.R_below HO.out hb); clear HO; have HO := m2_; clear m2_; have m0_ := Aside0.mk (HB.out.trans (hb.mono HB.out.size)); have m1_ := Aside0.mk (blk_below HG.out hb); clear HB HG; have HB := m0_; have HG := m1_; clear m0_ m1_; clear hb y0)
          | ((with_reducible refine gate_builtin (b := .append) (xs := #[.tmp 37, .tmp 39]) rfl ?_); at_builtin; refine Kd.R_append k80 (w0 := w) w.heap.size rfl (.tmp 37) (.tmp 39) 31 58 (.agg #[(.int .i64 0), (.int .i64 0), (.int .i64 0), (.bool false)]) 32 rfl Tryz.underlying31 info80 rfl (by decide) (by omega) u11 (List.replicate i (⟨-3, 0, 0, false⟩ : S80)) ((⟨-3, 0, 0, false⟩ : S80) : S80) [.int .i64 (⟨-3, 0, 0, false⟩ : S80).f0, .int .i64 (⟨-3, 0, 0, false⟩ : S80).f1, .int .i64 (⟨-3, 0, 0, false⟩ : S80).f2, .bool (⟨-3, 0, 0, false⟩ : S80).f3] (fun _ => True) (fun _ => False) rfl rfl ?aP (fun _ hk => hk.elim) ?aF ?aO ?aB ?aS ?aL ?_; (case aP => exact k80_mkM _ _ _ ((⟨-3, 0, 0, false⟩ : S80) : S80)); (case aB => exact HB.out); (case aF => exact (fun _ _ => trivial)); (case aO => exact HO.out); (case aS => exact HB.out.size); (case aL => rw [List.length_replicate]; omega); intro v5 w5 ho hb hg hat; have m2_ := Aside0.mk (show Kd.R k80 58 w5 w.heap.size (fun _ => True) v5 (List.replicate (i + 1) (⟨-3, 0, 0, false⟩ : S80)) by rw [List.replicate_succ']; exact ho); have m0_ := Aside0.mk hb; have m1_ := Aside0.mk (blk_grown HG.out hg (Kd.R_ne HO.out HG.out (by decide))); clear HO HB HG ho hb hg hat; have HO := m2_; have HB := m0_; have HG := m1_; clear m0_ m1_ m2_))
        go_roundg (gk - 1)
        case measure => omega
        case rel => exact ⟨i + 1, rfl, by omega, by omega, HO, HB, HG⟩
      · obtain rfl : i = q0.length := by omega
        go_upto_region 11 with fail
        clear y0
        generalize List.replicate q0.length (⟨-3, 0, 0, false⟩ : S80) = now0 at HO HRF
        go_wp2
        go_loopg [11, 13] m (fun gg v11 v13 wr => ∃ (j : Nat) (now : List S80), v13 = .int .i64 j ∧ j ≤ m ∧ m - j ≤ gg ∧ Aside0 (rdsS k q0 q1 q2 q3 q4 q5 l1 l2 (m - j) now = some (rf, ef)) ∧ Aside0 (Kd.R k80 58 wr w.heap.size (fun _ => True) v11 now) ∧ Aside0 (Below w.heap.size w wr) ∧ Aside0 (wr.heap[g]? = some (.cells #[.slice A0 q0.length c0, .slice A1 q1.length c1, .slice A2 q2.length c2, .slice A3 q3.length c3, .slice A4 q4.length c4, .slice A5 q5.length c5] 38 (0, 0))))
        case atStart => exact ⟨0, now0, rfl, Nat.zero_le _, by omega, HRF, HO, HB, HG⟩
        case round =>
          clear HRF HO HB HG
          obtain ⟨go, hgo⟩ : ∃ q, q = gk := ⟨_, rfl⟩
          subst hgo
          obtain ⟨j, now, rfl, hj, hgk2, HRF, HO, HB, HG⟩ := hrel
          obtain ⟨AR, cR, eR⟩ := Kd.R_slice HO.out
          subst eR
          by_cases hlt2 : j < m
          · have hltz2 : (j : Int) < (m : Int) := by omega
            have ew2 : IntKind.i64.wrap ((j : Int) + 1) = ((j + 1 : Nat) : Int) := IntWalk.i64_in _ (by omega)
            have hr := HRF.out
            rw [show m - j = (m - (j + 1)) + 1 by omega, rdsS] at hr
            obtain ⟨t, ht2, hr⟩ := Option.bind_eq_some_iff.1 hr
            have HT := Aside0.mk ht2
            have HR := Aside0.mk hr
            clear hr ht2 HRF
            go_upto_region 14 with fail
            have hR_ := R80_emp wr w.heap.size HB.out.size
            have hb : Below wr.heap.size wr (wr.alloc (.cells #[] 58)) := below_alloc (Below.refl _ _) _
            go_upto_region 15 with fail
            have HN := Aside0.mk hR_
            have m2_ := Aside0.mk (Kd.R_elder' (v := .slice (some ⟨wr.heap.size, 0, none⟩) 0 0) HO.out (fun k hk => Nat.le_of_eq (by simpa [Value.ownBlock] using hk)) hb)
            clear HO
            have HO := m2_
            have m0_ := Aside0.mk (HB.out.trans (hb.mono HB.out.size))
            have m1_ := Aside0.mk (blk_below HG.out hb)
            clear HB HG
            have HB := m0_
            have HG := m1_
            clear m0_ m1_
            clear hb hR_ m2_
            generalize wr.alloc (.cells #[] 58) = wz at HO HN HB HG ⊢
            obtain ⟨gx, hgx⟩ : ∃ q, wr.heap.size = q := ⟨_, rfl⟩
            rw [hgx] at HN HO ⊢
            clear hgx wr
            have hmaxn : now.length ≤ 9223372036854775807 := Kd.C_max (Kd.R_reads' HO.out).2.2
            go_wp2
            go_loopg [14, 15, 16] now.length (fun gj v14 v15 v16 wr => ∃ (i : Nat) (nx : List S80) (sm : Bool), v16 = .int .i64 i ∧ v15 = .bool sm ∧ i ≤ now.length ∧ now.length - i ≤ gj ∧ nx.length = i ∧ Aside0 (nxtS k q0 q1 q2 q3 q4 q5 l1 l2 now (now.drop i) i nx sm = some t) ∧ Aside0 (Kd.R k80 58 wr w.heap.size (fun _ => True) v14 nx) ∧ Aside0 (Kd.R k80 58 wr w.heap.size (fun k => True ∧ some k ≠ v14.ownBlock) (.slice AR now.length cR) now) ∧ Aside0 (Below w.heap.size w wr) ∧ Aside0 (wr.heap[g]? = some (.cells #[.slice A0 q0.length c0, .slice A1 q1.length c1, .slice A2 q2.length c2, .slice A3 q3.length c3, .slice A4 q4.length c4, .slice A5 q5.length c5] 38 (0, 0))))
            case atStart => exact ⟨0, [], true, rfl, rfl, Nat.zero_le _, by omega, rfl, HT, HN, HO, HB, HG⟩
            case round =>
              clear HT HN HO HB HG
              obtain ⟨i, nx, sm, rfl, rfl, hi3, hgj, hnl, HT, HN, HO, HB, HG⟩ := hrel
              by_cases hlt3 : i < now.length
              · have hltz3 : (i : Int) < (now.length : Int) := by omega
                have h0z3 : (0 : Int) ≤ (i : Int) := by omega
                have ew3 : IntKind.i64.wrap ((i : Int) + 1) = ((i + 1 : Nat) : Int) := IntWalk.i64_in _ (by omega)
                have hr := HT.out
                rw [List.drop_eq_getElem_cons hlt3, nxtS] at hr
                obtain ⟨cs, hcs, hr⟩ := Option.bind_eq_some_iff.1 hr
                obtain ⟨⟨b1, b2, b3, b4⟩, hbs, hr⟩ := Option.bind_eq_some_iff.1 hr
                by_cases hll : nx.length ≤ 1000
                rotate_left
                · rw [if_neg hll] at hr; cases hr
                rw [if_pos hll] at hr
                obtain ⟨y, e0, e1, e2, e3⟩ : ∃ y : S80, b1 = y.f0 ∧ b2 = y.f1 ∧ b3 = y.f2 ∧ b4 = y.f3 := ⟨⟨b1, b2, b3, b4⟩, rfl, rfl, rfl, rfl⟩
                subst e0 e1 e2 e3
                obtain ⟨x, hx⟩ : ∃ x, now[i] = x := ⟨_, rfl⟩
                rw [hx] at hr
                have HX := Aside0.mk hx
                have HE2 : Aside0 (nxtS k q0 q1 q2 q3 q4 q5 l1 l2 now (now.drop (i + 1)) ((i + 1 : Nat) : Int) (nx ++ [y]) (sm && eqB y x) = some t) := ⟨hr⟩
                have HLL := Aside0.mk hll
                have HCS := Aside0.mk hcs
                have HBS := Aside0.mk hbs
                clear hr hll hcs hbs HT hx
                have y0 := (blk_cell HG.out 0).trans (show _ = some (Value.slice A0 q0.length c0) from rfl)
                have y1 := (blk_cell HG.out 1).trans (show _ = some (Value.slice A1 q1.length c1) from rfl)
                have y2 := (blk_cell HG.out 2).trans (show _ = some (Value.slice A2 q2.length c2) from rfl)
                have y3 := (blk_cell HG.out 3).trans (show _ = some (Value.slice A3 q3.length c3) from rfl)
                have y4 := (blk_cell HG.out 4).trans (show _ = some (Value.slice A4 q4.length c4) from rfl)
                have y5 := (blk_cell HG.out 5).trans (show _ = some (Value.slice A5 q5.length c5) from rfl)
                go_upto_region 20 with (first
                  | (go_at_call 28; refine (HCA.out _ HB.out i AR cR now (Kd.R_reads' HO.out).2.2 (Kd.R_reads' HO.out).2.1 cs HCS.out).mono ?_; rintro e w6 ⟨v6, rfl, hR6, hb⟩; have HC6 := Aside0.mk hR6; have m2_ := Aside0.mk (Kd.R_below HO.out hb); have m3_ := Aside0.mk (Kd.R_below HN.out hb); clear HO HN; have HO := m2_; have HN := m3_; clear m2_ m3_; have m0_ := Aside0.mk (HB.out.trans (hb.mono HB.out.size)); have m1_ := Aside0.mk (blk_below HG.out hb); clear HB HG; have HB := m0_; have HG := m1_; clear m0_ m1_; obtain ⟨AC, cC, eC⟩ := Kd.R_slice hR6; subst eC; clear hb hR6 y0 y1 y2 y3 y4 y5)
                  | (go_at_call 27; refine (spec_l07Best.calls k AC cC cs y.f0 y.f1 y.f2 y.f3 _ (Kd.R_reads' HC6.out).2.2 (Kd.R_reads' HC6.out).2.1 HBS.out).mono ?_; rintro e w7 ⟨rfl, hb⟩; have m2_ := Aside0.mk (Kd.R_below HO.out hb); have m3_ := Aside0.mk (Kd.R_below HN.out hb); clear HO HN; have HO := m2_; have HN := m3_; clear m2_ m3_; have m0_ := Aside0.mk (HB.out.trans (hb.mono HB.out.size)); have m1_ := Aside0.mk (blk_below HG.out hb); clear HB HG; have HB := m0_; have HG := m1_; clear m0_ m1_; clear hb HC6)
                  | ((with_reducible refine gate_builtin (b := .append) (xs := #[.tmp 53, .tmp 61]) rfl ?_); at_builtin; refine Kd.R_append k80 (w0 := w) w.heap.size rfl (.tmp 53) (.tmp 61) 31 58 (.agg #[(.int .i64 0), (.int .i64 0), (.int .i64 0), (.bool false)]) 32 rfl Tryz.underlying31 info80 rfl (by decide) (by omega) u14 nx (y : S80) [.int .i64 y.f0, .int .i64 y.f1, .int .i64 y.f2, .bool y.f3] (fun _ => True) (fun _ => False) rfl rfl ?aP (fun _ hk => hk.elim) ?aF ?aO ?aB ?aS ?aL ?_; (case aP => exact k80_mkM _ _ _ (y : S80)); (case aB => exact HB.out); (case aF => exact (fun _ _ => trivial)); (case aO => exact HN.out); (case aS => exact HB.out.size); (case aL => have := HLL.out; omega); intro v8 w8 ho hb hg hat; have m2_ := Aside0.mk (show Kd.R k80 58 w8 w.heap.size (fun _ => True) v8 (nx ++ [y]) from ho); have m0_ := Aside0.mk hb; have m1_ := Aside0.mk (blk_grown HG.out hg (Kd.R_ne HN.out HG.out (by decide))); have m3_ := Aside0.mk (Kd.R_after HO.out hg hat); clear HO HN HB HG ho hb hg hat; have HO := m3_; have HN := m2_; have HB := m0_; have HG := m1_; clear m0_ m1_ m2_ m3_))
                obtain ⟨AN, cN, eN⟩ := Kd.R_slice HN.out
                subst eN
                have hnl2 : (i : Int) < ((nx ++ [y]).length : Int) := by rw [List.length_append, List.length_cons, List.length_nil]; omega
                obtain ⟨adn, en, p0, p1, p2, p3⟩ := at_T80 (Kd.R_reads' HN.out).2.2 (i : Int) h0z3 hnl2
                obtain ⟨ado, eo, o0, o1, o2, o3⟩ := at_T80 (Kd.R_reads' HO.out).2.2 (i : Int) h0z3 hltz3
                subst en eo
                rw [rdnow now i hlt3, HX.out, Int.toNat_natCast] at o0 o1 o2 o3
                rw [← hnl, rdlast, hnl, Int.toNat_natCast] at p0 p1 p2 p3
                replace HN := Aside0.mk (Kd.R_drew HN.out)
                replace HO := Aside0.mk (Kd.R_drew HO.out)
                replace HB := Aside0.mk (below_drew1 HB.out)
                replace HG := Aside0.mk (blk_drew HG.out)
                have hi1 : (i : Int) < (i : Int) + 1 := by omega
                clear hnl2
                cases sm with
                | true =>
                  refine start_ (n := 13) (S := fun w' => w'.cell? (adn.add (i * 4)) = some (.int .i64 y.f0) ∧ w'.cell? ⟨(adn.add (i * 4)).block, (adn.add (i * 4)).off + 1, none⟩ = some (.int .i64 y.f1) ∧ w'.cell? ⟨(adn.add (i * 4)).block, (adn.add (i * 4)).off + 2, none⟩ = some (.int .i64 y.f2) ∧ w'.cell? ⟨(adn.add (i * 4)).block, (adn.add (i * 4)).off + 3, none⟩ = some (.bool y.f3) ∧ w'.cell? (ado.add (i * 4)) = some (.int .i64 x.f0) ∧ w'.cell? ⟨(ado.add (i * 4)).block, (ado.add (i * 4)).off + 1, none⟩ = some (.int .i64 x.f1) ∧ w'.cell? ⟨(ado.add (i * 4)).block, (ado.add (i * 4)).off + 2, none⟩ = some (.int .i64 x.f2) ∧ w'.cell? ⟨(ado.add (i * 4)).block, (ado.add (i * 4)).off + 3, none⟩ = some (.bool x.f3)) (ds := []) (bA 13 0) (by kernel_rfl) rfl rfl ⟨p0, p1, p2, p3, o0, o1, o2, o3⟩ (fun hHeld => ?_)
                  refine with_tabW setT20_tab setT20_bits (fun HT_ HW_ => ?_)
                  generalize wr.drew = wd at hHeld HB HG HO HN ⊢
                  clear p0 p1 p2 p3 o0 o1 o2 o3
                  refine pure_ (i := 0) (N := some 63) (bA 13 1) rfl rfl (any_of HT_.out (by kernel_rfl)) (fun _ _ _ h => h) (.inl ⟨by rfl, (by intro w'; go_simp; with_reducible rfl)⟩) (by simp only [Act.put, sb0, sb1, sb2, i64_w, i32_w]; rfl) ?_
                  refine pure_ (i := 1) (N := some 64) (bA 13 3) rfl rfl (any_of HT_.out (by kernel_rfl)) (fun _ _ _ h => h) (.inl ⟨by rfl, (by intro w'; go_simp; with_reducible rfl)⟩) (by simp only [Act.put, sb0, sb1, sb2, i64_w, i32_w]; rfl) ?_
                  refine pure_ (i := 2) (N := some 65) (bA 13 7) rfl rfl (any_of HT_.out (by kernel_rfl)) (fun _ _ _ h => h) (.inl ⟨by rfl, (by intro w'; go_simp; with_reducible rfl)⟩) (by simp only [Act.put, sb0, sb1, sb2, i64_w, i32_w]; rfl) ?_
                  refine pure_ (i := 3) (N := some 66) (bA 13 15) rfl rfl (any_of HT_.out (by kernel_rfl)) (fun _ _ _ h => h) (.inl ⟨by rfl, (by intro w'; go_simp; with_reducible rfl)⟩) (by simp only [Act.put, sb0, sb1, sb2, i64_w, i32_w]; rfl) ?_
                  refine pure_ (i := 4) (N := some 67) (bA 13 31) rfl rfl (any_of HT_.out (by kernel_rfl)) (fun _ _ _ h => h) (.inl ⟨by rfl, (by intro w'; go_simp; with_reducible rfl)⟩) (by simp only [Act.put, sb0, sb1, sb2, i64_w, i32_w]; rfl) ?_
                  refine pure_ (i := 6) (N := some 69) (bA 13 95) rfl rfl (any_of HT_.out (by kernel_rfl)) (fun _ _ _ h => h) (.inl ⟨by rfl, (by intro w'; go_simp; with_reducible rfl)⟩) (by simp only [Act.put, sb0, sb1, sb2, i64_w, i32_w]; rfl) ?_
                  refine pure_ (i := 7) (N := some 70) (bA 13 223) rfl rfl (any_of HT_.out (by kernel_rfl)) (fun _ _ _ h => h) (.inl ⟨by rfl, (by intro w'; go_simp; with_reducible rfl)⟩) (by simp only [Act.put, sb0, sb1, sb2, i64_w, i32_w]; rfl) ?_
                  refine pure_ (i := 8) (N := some 71) (bA 13 479) rfl rfl (any_of HT_.out (by kernel_rfl)) (fun _ _ _ h => h) (.inl ⟨by rfl, (by intro w'; go_simp; with_reducible rfl)⟩) (by simp only [Act.put, sb0, sb1, sb2, i64_w, i32_w]; rfl) ?_
                  refine take_ (i := 5) (N := some 68) (bA 13 511) rfl rfl (take_ofW HT_.out HW_.out (by kernel_rfl)) (fun _ _ _ h => h) (.inl ⟨by rfl, by rintro w' ⟨s0, s1, s2, s3, s4, s5, s6, s7⟩; go_simp; with_reducible rfl⟩) hHeld (by simp only [Act.put, sb0, sb1, sb2, i64_w, i32_w]; rfl) ?_
                  refine take_ (i := 9) (N := some 72) (bA 13 1023) rfl rfl (take_ofW HT_.out HW_.out (by kernel_rfl)) (fun _ _ _ h => h) (.inl ⟨by rfl, by rintro w' ⟨s0, s1, s2, s3, s4, s5, s6, s7⟩; go_simp; with_reducible rfl⟩) hHeld (by simp only [Act.put, sb0, sb1, sb2, i64_w, i32_w]; rfl) ?_
                  refine pure_ (i := 10) (N := some 73) (v := .bool (eqB y x)) (bA 13 2047) rfl rfl (any_of HT_.out (by kernel_rfl)) (fun _ _ _ h => h) (.inl ⟨by rfl, fun _ => x_eql80 rfl rfl rfl⟩) (by simp only [Act.put, sb0, sb1, sb2, i64_w, i32_w]; rfl) ?_
                  refine pure_ (i := 11) (N := some 74) (bA 13 4095) rfl rfl (any_of HT_.out (by kernel_rfl)) (fun _ _ _ h => h) (.inl ⟨by rfl, (by intro w'; go_simp; with_reducible rfl)⟩) (by simp only [Act.put, sb0, sb1, sb2, i64_w, i32_w]; rfl) ?_
                  refine pure_ (i := 12) (N := some 15) (bA 13 8191) rfl rfl (any_of HT_.out (by kernel_rfl)) (fun _ _ _ h => h) (.inl ⟨by rfl, (by intro w'; go_simp; with_reducible rfl)⟩) (by simp only [Act.put, sb0, sb1, sb2, i64_w, i32_w]; rfl) ?_
                  refine done_ (done_of HT_.out (by kernel_rfl)) ?_
                  go_wp2
                  go_roundg (gk - 1)
                  case measure => omega
                  case rel => exact ⟨i + 1, nx ++ [y], (true && eqB y x), rfl, congrArg Value.bool (Bool.true_and _).symm, by omega, by omega, by rw [List.length_append, hnl]; rfl, HE2, HN, HO, HB, HG⟩
                | false =>
                  refine start_ (n := 13) (S := fun w' => w'.cell? (adn.add (i * 4)) = some (.int .i64 y.f0) ∧ w'.cell? ⟨(adn.add (i * 4)).block, (adn.add (i * 4)).off + 1, none⟩ = some (.int .i64 y.f1) ∧ w'.cell? ⟨(adn.add (i * 4)).block, (adn.add (i * 4)).off + 2, none⟩ = some (.int .i64 y.f2) ∧ w'.cell? ⟨(adn.add (i * 4)).block, (adn.add (i * 4)).off + 3, none⟩ = some (.bool y.f3) ∧ w'.cell? (ado.add (i * 4)) = some (.int .i64 x.f0) ∧ w'.cell? ⟨(ado.add (i * 4)).block, (ado.add (i * 4)).off + 1, none⟩ = some (.int .i64 x.f1) ∧ w'.cell? ⟨(ado.add (i * 4)).block, (ado.add (i * 4)).off + 2, none⟩ = some (.int .i64 x.f2) ∧ w'.cell? ⟨(ado.add (i * 4)).block, (ado.add (i * 4)).off + 3, none⟩ = some (.bool x.f3)) (ds := []) (bA 13 0) (by kernel_rfl) rfl rfl ⟨p0, p1, p2, p3, o0, o1, o2, o3⟩ (fun hHeld => ?_)
                  refine with_tabW setT20_tab setT20_bits (fun HT_ HW_ => ?_)
                  generalize wr.drew = wd at hHeld HB HG HO HN ⊢
                  clear p0 p1 p2 p3 o0 o1 o2 o3
                  refine pure_ (i := 0) (N := some 63) (bA 13 1) rfl rfl (any_of HT_.out (by kernel_rfl)) (fun _ _ _ h => h) (.inl ⟨by rfl, (by intro w'; go_simp; with_reducible rfl)⟩) (by simp only [Act.put, sb0, sb1, sb2, i64_w, i32_w]; rfl) ?_
                  refine pure_ (i := 1) (N := some 64) (bA 13 3) rfl rfl (any_of HT_.out (by kernel_rfl)) (fun _ _ _ h => h) (.inl ⟨by rfl, (by intro w'; go_simp; with_reducible rfl)⟩) (by simp only [Act.put, sb0, sb1, sb2, i64_w, i32_w]; rfl) ?_
                  refine pure_ (i := 2) (N := some 65) (bA 13 7) rfl rfl (any_of HT_.out (by kernel_rfl)) (fun _ _ _ h => h) (.inr ⟨by rfl, rfl⟩) (by simp only [Act.put, sb0, sb1, sb2, i64_w, i32_w]; rfl) ?_
                  refine pure_ (i := 3) (N := some 66) (bA 13 15) rfl rfl (any_of HT_.out (by kernel_rfl)) (fun _ _ _ h => h) (.inr ⟨by rfl, rfl⟩) (by simp only [Act.put, sb0, sb1, sb2, i64_w, i32_w]; rfl) ?_
                  refine pure_ (i := 4) (N := some 67) (bA 13 31) rfl rfl (any_of HT_.out (by kernel_rfl)) (fun _ _ _ h => h) (.inr ⟨by rfl, rfl⟩) (by simp only [Act.put, sb0, sb1, sb2, i64_w, i32_w]; rfl) ?_
                  refine pure_ (i := 6) (N := some 69) (bA 13 95) rfl rfl (any_of HT_.out (by kernel_rfl)) (fun _ _ _ h => h) (.inr ⟨by rfl, rfl⟩) (by simp only [Act.put, sb0, sb1, sb2, i64_w, i32_w]; rfl) ?_
                  refine pure_ (i := 7) (N := some 70) (bA 13 223) rfl rfl (any_of HT_.out (by kernel_rfl)) (fun _ _ _ h => h) (.inr ⟨by rfl, rfl⟩) (by simp only [Act.put, sb0, sb1, sb2, i64_w, i32_w]; rfl) ?_
                  refine pure_ (i := 8) (N := some 71) (bA 13 479) rfl rfl (any_of HT_.out (by kernel_rfl)) (fun _ _ _ h => h) (.inr ⟨by rfl, rfl⟩) (by simp only [Act.put, sb0, sb1, sb2, i64_w, i32_w]; rfl) ?_
                  refine pure_ (i := 5) (N := some 68) (bA 13 511) rfl rfl (any_of HT_.out (by kernel_rfl)) (fun _ _ _ h => h) (.inr ⟨by rfl, rfl⟩) (by simp only [Act.put, sb0, sb1, sb2, i64_w, i32_w]; rfl) ?_
                  refine pure_ (i := 9) (N := some 72) (bA 13 1023) rfl rfl (any_of HT_.out (by kernel_rfl)) (fun _ _ _ h => h) (.inr ⟨by rfl, rfl⟩) (by simp only [Act.put, sb0, sb1, sb2, i64_w, i32_w]; rfl) ?_
                  refine pure_ (i := 10) (N := some 73) (bA 13 2047) rfl rfl (any_of HT_.out (by kernel_rfl)) (fun _ _ _ h => h) (.inr ⟨by rfl, rfl⟩) (by simp only [Act.put, sb0, sb1, sb2, i64_w, i32_w]; rfl) ?_
                  refine pure_ (i := 11) (N := some 74) (bA 13 4095) rfl rfl (any_of HT_.out (by kernel_rfl)) (fun _ _ _ h => h) (.inl ⟨by rfl, (by intro w'; go_simp; with_reducible rfl)⟩) (by simp only [Act.put, sb0, sb1, sb2, i64_w, i32_w]; rfl) ?_
                  refine pure_ (i := 12) (N := some 15) (bA 13 8191) rfl rfl (any_of HT_.out (by kernel_rfl)) (fun _ _ _ h => h) (.inl ⟨by rfl, (by intro w'; go_simp; with_reducible rfl)⟩) (by simp only [Act.put, sb0, sb1, sb2, i64_w, i32_w]; rfl) ?_
                  refine done_ (done_of HT_.out (by kernel_rfl)) ?_
                  go_wp2
                  go_roundg (gk - 1)
                  case measure => omega
                  case rel => exact ⟨i + 1, nx ++ [y], (false && eqB y x), rfl, rfl, by omega, by omega, by rw [List.length_append, hnl]; rfl, HE2, HN, HO, HB, HG⟩
              · obtain rfl : i = now.length := by omega
                have hr := HT.out
                rw [List.drop_length, nxtS] at hr
                cases hr
                cases sm with
                | true =>
                  have hr := HR.out
                  rw [if_pos rfl] at hr
                  cases hr
                  have h9 := HH.out
                  rw [if_pos rfl] at h9
                  cases h9
                  go_wp2
                  go_ret2
                  exact ⟨_, rfl, Kd.R_mono HO.out (fun _ _ => trivial), HB.out⟩
                | false =>
                  have hr := HR.out
                  rw [if_neg (by simp)] at hr
                  have HR2 := Aside0.mk hr
                  go_wp2
                  go_roundg (go - 1)
                  case measure => omega
                  case rel => exact ⟨j + 1, nx, rfl, by omega, by omega, HR2, HN, HB, HG⟩
          · obtain rfl : j = m := by omega
            have hr := HRF.out
            rw [Nat.sub_self, rdsS] at hr
            cases hr
            have h9 := HH.out
            rw [if_neg (by decide)] at h9
            go_upto_region 24 with fail
            have y0 := (blk_cell HG.out 0).trans (show _ = some (Value.slice A0 q0.length c0) from rfl)
            have y1 := (blk_cell HG.out 1).trans (show _ = some (Value.slice A1 q1.length c1) from rfl)
            have y2 := (blk_cell HG.out 2).trans (show _ = some (Value.slice A2 q2.length c2) from rfl)
            have y3 := (blk_cell HG.out 3).trans (show _ = some (Value.slice A3 q3.length c3) from rfl)
            have y4 := (blk_cell HG.out 4).trans (show _ = some (Value.slice A4 q4.length c4) from rfl)
            have y5 := (blk_cell HG.out 5).trans (show _ = some (Value.slice A5 q5.length c5) from rfl)
            obtain ⟨b, hb9, h⟩ := Option.bind_eq_some_iff.1 h9
            have HS := Aside0.mk hb9
            clear h9 hb9
            cases b with
            | true =>
              rw [if_pos rfl] at h
              cases h
              go_wp2_with (go_at_call 29; refine (HST.out _ HB.out AR cR _ (Kd.R_reads' HO.out).2.2 (Kd.R_reads' HO.out).2.1 true HS.out).mono ?_; rintro e w9 ⟨rfl, hb⟩; have HO9 := Aside0.mk (Kd.R_below HO.out hb); have HB9 := Aside0.mk (HB.out.trans (hb.mono HB.out.size)); clear hb HO HB HG y0 y1 y2 y3 y4 y5)
              go_ret2
              exact ⟨_, rfl, HO9.out, HB9.out⟩
            | false =>
              rw [if_neg (by decide)] at h
              cases h
              go_wp2_with (go_at_call 29; refine (HST.out _ HB.out AR cR _ (Kd.R_reads' HO.out).2.2 (Kd.R_reads' HO.out).2.1 false HS.out).mono ?_; rintro e w9 ⟨rfl, hb⟩; have HB9 := Aside0.mk (HB.out.trans (hb.mono HB.out.size)); clear hb HO HB HG y0 y1 y2 y3 y4 y5)
              go_ret2
              exact ⟨_, rfl, R80_emp _ _ HB9.out.size, below_alloc HB9.out _⟩
end Go.Proofs.YtgibacfgjmdjdaaGreat.PFnExactIsStable
end
section
namespace Go.Proofs.YtgibacfgjmdjdaaGreat.PFnExactIsStable
open Go.RowKit Go.Proofs.YtgibacfgjmdjdaaGreatW.PrintWords Go.Proofs.YtgibacfgjmdjdaaGreatW.PrintLast Go.Proofs.YtgibacfgjmdjdaaGreatW.PrintMore
attribute [local go_sem] max2_int min2_int max_two min_two max_three min_three max_four min_four   -- for this text's walks alone
set_option linter.unusedVariables false
set_option linter.unusedSimpArgs false
set_option maxHeartbeats 8000000
set_option maxRecDepth 100000
theorem foot_kept {P : World → Prop} {V V2 : World} {ok S : Nat → Prop} (h : Foot P V ok) (hk : Kept V V2 S) (hne : ∀ k, ok k → ¬ S k) : Foot P V2 ok := h.step (fun k hk' hlt => hk.2 k hlt (hne k hk'))
instance decS80 : DecidableEq S80 := fun a b => if h : a.f0 = b.f0 ∧ a.f1 = b.f1 ∧ a.f2 = b.f2 ∧ a.f3 = b.f3 then isTrue (by obtain ⟨a0, a1, a2, a3⟩ := a; obtain ⟨b0, b1, b2, b3⟩ := b; obtain ⟨rfl, rfl, rfl, rfl⟩ := h; rfl) else isFalse (fun e => h (by subst e; exact ⟨rfl, rfl, rfl, rfl⟩))
section
variable {V W : World} {lo : Nat} {ok ok' : Nat → Prop} {A0 : Option Addr} {c0 : Nat} {A1 : Option Addr} {c1 : Nat} {A2 : Option Addr} {c2 : Nat} {A3 : Option Addr} {c3 : Nat} {A4 : Option Addr} {c4 : Nat} {A5 : Option Addr} {c5 : Nat} {q0 : List ByteArray} {q1 : List S92} {q2 : List Int} {q3 : List Int} {q4 : List S95} {q5 : List S97} {kf : Nat}
theorem markNet_any {w0 : World} {a1 r1 : Int} {r2 : List ByteArray} {r3 : List S92} {r4 r5 : List Int} {r6 : List S95} {r7 : List S97} (hB : Below w0.heap.size w0 V) (h1 : NP w0.heap.size ok A0 c0 A1 c1 A2 c2 A3 c3 A4 c4 A5 c5 q0 q1 q2 q3 q4 q5 V) (hap : ∀ k, some k = (.slice A2 q2.length c2 : Value).ownBlock → ¬ some k = (.slice A3 q3.length c3 : Value).ownBlock) (h : laws_markNet.f kf q0 q1 q2 q3 q4 q5 a1 = some (r1, r2, r3, r4, r5, r6, r7)) :
    Calls Tryz.prog 14 #[.agg #[.slice A0 q0.length c0, .slice A1 q1.length c1, .slice A2 q2.length c2, .slice A3 q3.length c3, .slice A4 q4.length c4, .slice A5 q5.length c5], .int .i64 a1] V fun e w' => e = .returned (.int .i64 r1) ∧ Below w0.heap.size w0 w' ∧ Kept V w' ok := by
  refine (laws_markNet.calls kf (fun k_ => some k_ = (.slice A0 q0.length c0 : Value).ownBlock) (.slice A0 q0.length c0) q0 (fun k_ => some k_ = (.slice A1 q1.length c1 : Value).ownBlock) (.slice A1 q1.length c1) q1 (fun k_ => some k_ = (.slice A2 q2.length c2 : Value).ownBlock) (.slice A2 q2.length c2) q2 (fun k_ => some k_ = (.slice A3 q3.length c3 : Value).ownBlock) (.slice A3 q3.length c3) q3 (fun k_ => some k_ = (.slice A4 q4.length c4 : Value).ownBlock) (.slice A4 q4.length c4) q4 (fun k_ => some k_ = (.slice A5 q5.length c5 : Value).ownBlock) (.slice A5 q5.length c5) q5 a1 r1 r2 r3 r4 r5 r6 r7 w0 V hB (Kd.R_tight rfl h1.1) (Kd.R_tight rfl h1.2.1) (Kd.R_tight rfl h1.2.2.1) hap (Kd.R_tight rfl h1.2.2.2.1) (fun k e e2 => hap k e2 e) (Kd.R_tight rfl h1.2.2.2.2.1) (Kd.R_tight rfl h1.2.2.2.2.2) h).mono ?_
  rintro e w' ⟨rfl, -, -, -, -, -, -, hb, hk⟩
  exact ⟨rfl, hb, hk.mono (fun k hs => by
    rcases hs with hs | hs | hs | hs | hs | hs
    · exact h1.1.1 k hs.symm
    · exact h1.2.1.1 k hs.symm
    · exact h1.2.2.1.1 k hs.symm
    · exact h1.2.2.2.1.1 k hs.symm
    · exact h1.2.2.2.2.1.1 k hs.symm
    · exact h1.2.2.2.2.2.1 k hs.symm)⟩
theorem spec_Settle_any {X1 : Option Addr} {y1 : Nat} {l1 : List Int} {X2 : Option Addr} {y2 : Nat} {l2 : List Bool} {a3 : Int} {s1 : List S80} {s2 : Int} (h1 : NP lo ok A0 c0 A1 c1 A2 c2 A3 c3 A4 c4 A5 c5 q0 q1 q2 q3 q4 q5 V) (hr1 : Kd.C (Kd.int .i64) V X1 l1.length l1) (hc1 : l1.length ≤ y1) (hr2 : Kd.C Kd.bool V X2 l2.length l2) (hc2 : l2.length ≤ y2) (h : spec_Settle.f kf q0 q1 q2 q3 q4 q5 l1 l2 a3 = some (s1, s2)) :
    Calls Tryz.prog 5 #[.agg #[.slice A0 q0.length c0, .slice A1 q1.length c1, .slice A2 q2.length c2, .slice A3 q3.length c3, .slice A4 q4.length c4, .slice A5 q5.length c5], .slice X1 l1.length y1, .slice X2 l2.length y2, .int .i64 a3] V fun e w' => (∃ v0_ : Value, e = .returned (.tuple #[v0_, .int .i64 s2]) ∧ Kd.R k80 58 w' V.heap.size (fun _ => True) v0_ s1) ∧ Below V.heap.size V w' :=
  (spec_Settle.calls kf A0 c0 q0 A1 c1 q1 A2 c2 q2 A3 c3 q3 A4 c4 q4 A5 c5 q5 X1 y1 l1 X2 y2 l2 a3 s1 s2 V (Kd.R_reads' h1.1).2.2 (Kd.R_reads' h1.1).2.1 (Kd.R_reads' h1.2.1).2.2 (Kd.R_reads' h1.2.1).2.1 (Kd.R_reads' h1.2.2.1).2.2 (Kd.R_reads' h1.2.2.1).2.1 (Kd.R_reads' h1.2.2.2.1).2.2 (Kd.R_reads' h1.2.2.2.1).2.1 (Kd.R_reads' h1.2.2.2.2.1).2.2 (Kd.R_reads' h1.2.2.2.2.1).2.1 (Kd.R_reads' h1.2.2.2.2.2).2.2 (Kd.R_reads' h1.2.2.2.2.2).2.1 hr1 hc1 hr2 hc2 h).mono (fun _ _ ⟨v, he, hr, hb⟩ => ⟨⟨v, he, hr⟩, hb⟩)
theorem impl_Settle_any {X1 : Option Addr} {y1 : Nat} {l1 : List Int} {X2 : Option Addr} {y2 : Nat} {l2 : List Bool} {a3 : Int} {s1 : List S80} {s2 : Int} (h1 : NP lo ok A0 c0 A1 c1 A2 c2 A3 c3 A4 c4 A5 c5 q0 q1 q2 q3 q4 q5 V) (hr1 : Kd.C (Kd.int .i64) V X1 l1.length l1) (hc1 : l1.length ≤ y1) (hr2 : Kd.C Kd.bool V X2 l2.length l2) (hc2 : l2.length ≤ y2) (h : impl_Settle.f kf q0 q1 q2 q3 q4 q5 l1 l2 a3 = some (s1, s2)) :
    Calls Tryz.prog 9 #[.agg #[.slice A0 q0.length c0, .slice A1 q1.length c1, .slice A2 q2.length c2, .slice A3 q3.length c3, .slice A4 q4.length c4, .slice A5 q5.length c5], .slice X1 l1.length y1, .slice X2 l2.length y2, .int .i64 a3] V fun e w' => (∃ v0_ : Value, e = .returned (.tuple #[v0_, .int .i64 s2]) ∧ Kd.R k80 58 w' V.heap.size (fun _ => True) v0_ s1) ∧ Below V.heap.size V w' :=
  (impl_Settle.calls kf A0 c0 q0 A1 c1 q1 A2 c2 q2 A3 c3 q3 A4 c4 q4 A5 c5 q5 X1 y1 l1 X2 y2 l2 a3 s1 s2 V (Kd.R_reads' h1.1).2.2 (Kd.R_reads' h1.1).2.1 (Kd.R_reads' h1.2.1).2.2 (Kd.R_reads' h1.2.1).2.1 (Kd.R_reads' h1.2.2.1).2.2 (Kd.R_reads' h1.2.2.1).2.1 (Kd.R_reads' h1.2.2.2.1).2.2 (Kd.R_reads' h1.2.2.2.1).2.1 (Kd.R_reads' h1.2.2.2.2.1).2.2 (Kd.R_reads' h1.2.2.2.2.1).2.1 (Kd.R_reads' h1.2.2.2.2.2).2.2 (Kd.R_reads' h1.2.2.2.2.2).2.1 hr1 hc1 hr2 hc2 h).mono (fun _ _ ⟨v, he, hr, hb⟩ => ⟨⟨v, he, hr⟩, hb⟩)
end
def lawZ_T : Bool × List (List Nat × List Nat) := (true, [([], []), ([], []), ([1], [1]), ([0, 2, 2], [0, 2]), ([3], [3])])
def lawZ_B : List Nat := [0, 0, 2, 7, 15]
theorem lawZ_tab : rtab .any (opsOf Tryz.f3 16) = lawZ_T := by kernel_rfl
theorem lawZ_bits : waitsOk lawZ_T.2 lawZ_B = true := by kernel_rfl
theorem held_at (kf : Nat) (A : Option Addr) (c : Nat) (G : List S80) (n : Nat) (hn : G.length = n) (a r : Int) (w : World) (hR : Kd.C k80 w A G.length G) (hc : n ≤ c) (h : laws_heldRouteS.f kf G a = some r) : Calls Tryz.prog 18 #[.slice A n c, .int .i64 a] w fun e w' => e = .returned (.int .i64 r) ∧ Drawn0 w w' := by
  subst hn
  exact laws_heldRouteS.calls kf A c G a r w hR hc h
def laws_FnExactSettle.f (kf : Nat) (l0_0 : List ByteArray) (l0_1 : List S107) (l0_2 : List Int) (l0_3 : List Int) (l0_4 : List S109) (l0_5 : List S111) (l1 : List Int) (l2 : List Bool) (a3 : Int) : Option Bool :=
  if (l1.length : Int) > 1048576 then some true else
  if (l2.length : Int) > 1048576 then some true else
  (laws_szNet.f kf l0_0 l0_1 l0_2 l0_3 l0_4 l0_5 1048576).bind fun t => if t < 0 then some true else
  (laws_toNet.f kf l0_0 l0_1 l0_2 l0_3 l0_4 l0_5).bind fun q => (laws_toIntS.f kf l1).bind fun t1 => (laws_toBoolS.f kf l2).bind fun t2 => (spec_Settle.f kf q.1 q.2.1 q.2.2.1 q.2.2.2.1 q.2.2.2.2.1 q.2.2.2.2.2 t1 t2 a3).bind fun s => (impl_Settle.f kf q.1 q.2.1 q.2.2.1 q.2.2.2.1 q.2.2.2.2.1 q.2.2.2.2.2 t1 t2 a3).bind fun g => (laws_eqRouteS.f kf s.1 s.1).bind fun b1 => (laws_eqNet.f kf q.1 q.2.1 q.2.2.1 q.2.2.2.1 q.2.2.2.2.1 q.2.2.2.2.2 q.1 q.2.1 q.2.2.1 q.2.2.2.1 q.2.2.2.2.1 q.2.2.2.2.2).bind fun b2 => (laws_eqIntS.f kf t1 t1).bind fun b3 => (laws_eqBoolS.f kf t2 t2).bind fun b4 => (laws_markNet.f kf q.1 q.2.1 q.2.2.1 q.2.2.2.1 q.2.2.2.2.1 q.2.2.2.2.2 1).bind fun m => (laws_markIntS.f kf t1 m.1).bind fun y1 => (laws_markBoolS.f kf t2 y1.1).bind fun y2 => (laws_markRouteS.f kf s.1 1).bind fun z => (laws_heldRouteS.f kf z.2 1).bind fun h =>
  if g = s ∧ b1 = true ∧ b2 = true ∧ b3 = true ∧ b4 = true ∧ 0 ≤ y2.1 ∧ h = z.1 ∧ 0 ≤ z.1 ∧ z.2.length = s.1.length then some true else none
set_option maxHeartbeats 8000000 in
set_option maxRecDepth 100000 in
theorem laws_FnExactSettle.calls (kf : Nat) (A0_0 : Option Addr) (c0_0 : Nat) (l0_0 : List ByteArray) (A0_1 : Option Addr) (c0_1 : Nat) (l0_1 : List S107) (A0_2 : Option Addr) (c0_2 : Nat) (l0_2 : List Int) (A0_3 : Option Addr) (c0_3 : Nat) (l0_3 : List Int) (A0_4 : Option Addr) (c0_4 : Nat) (l0_4 : List S109) (A0_5 : Option Addr) (c0_5 : Nat) (l0_5 : List S111) (A1 : Option Addr) (c1 : Nat) (l1 : List Int) (A2 : Option Addr) (c2 : Nat) (l2 : List Bool) (a3 : Int) (r : Bool) (w : World) (hr0_0 : Kd.C Kd.string w A0_0 l0_0.length l0_0) (hc0_0 : l0_0.length ≤ c0_0) (hr0_1 : Kd.C k107 w A0_1 l0_1.length l0_1) (hc0_1 : l0_1.length ≤ c0_1) (hr0_2 : Kd.C (Kd.int .i64) w A0_2 l0_2.length l0_2) (hc0_2 : l0_2.length ≤ c0_2) (hr0_3 : Kd.C (Kd.int .i64) w A0_3 l0_3.length l0_3) (hc0_3 : l0_3.length ≤ c0_3) (hr0_4 : Kd.C k109 w A0_4 l0_4.length l0_4) (hc0_4 : l0_4.length ≤ c0_4) (hr0_5 : Kd.C k111 w A0_5 l0_5.length l0_5) (hc0_5 : l0_5.length ≤ c0_5) (hr1 : Kd.C (Kd.int .i64) w A1 l1.length l1) (hc1 : l1.length ≤ c1) (hr2 : Kd.C Kd.bool w A2 l2.length l2) (hc2 : l2.length ≤ c2) (h : laws_FnExactSettle.f kf l0_0 l0_1 l0_2 l0_3 l0_4 l0_5 l1 l2 a3 = some r) :
    Calls Tryz.prog 3 #[.agg #[.slice A0_0 l0_0.length c0_0, .slice A0_1 l0_1.length c0_1, .slice A0_2 l0_2.length c0_2, .slice A0_3 l0_3.length c0_3, .slice A0_4 l0_4.length c0_4, .slice A0_5 l0_5.length c0_5], .slice A1 l1.length c1, .slice A2 l2.length c2, .int .i64 a3] w fun e w' => e = .returned (.bool r) ∧ Below w.heap.size w w' := by
  have hu28 := Tryz.underlying28
  have hu38 := Tryz.underlying38
  unfold laws_FnExactSettle.f at h
  have hb1 : Below w.heap.size w (w.alloc (.cells #[.slice A0_0 l0_0.length c0_0, .slice A0_1 l0_1.length c0_1, .slice A0_2 l0_2.length c0_2, .slice A0_3 l0_3.length c0_3, .slice A0_4 l0_4.length c0_4, .slice A0_5 l0_5.length c0_5] 28)) := (Below.refl _ _).alloc (Nat.le_refl _) _
  have hW : (w.alloc (.cells #[.slice A0_0 l0_0.length c0_0, .slice A0_1 l0_1.length c0_1, .slice A0_2 l0_2.length c0_2, .slice A0_3 l0_3.length c0_3, .slice A0_4 l0_4.length c0_4, .slice A0_5 l0_5.length c0_5] 28)).heap[w.heap.size]? = some (.cells #[.slice A0_0 l0_0.length c0_0, .slice A0_1 l0_1.length c0_1, .slice A0_2 l0_2.length c0_2, .slice A0_3 l0_3.length c0_3, .slice A0_4 l0_4.length c0_4, .slice A0_5 l0_5.length c0_5] 28 (0, 0)) := by
    show (w.heap.push _)[w.heap.size]? = _
    simp
  obtain ⟨W1, hW1, BX, HB1⟩ : ∃ W1, w.alloc (.cells #[.slice A0_0 l0_0.length c0_0, .slice A0_1 l0_1.length c0_1, .slice A0_2 l0_2.length c0_2, .slice A0_3 l0_3.length c0_3, .slice A0_4 l0_4.length c0_4, .slice A0_5 l0_5.length c0_5] 28) = W1 ∧ W1.heap[w.heap.size]? = some (.cells #[.slice A0_0 l0_0.length c0_0, .slice A0_1 l0_1.length c0_1, .slice A0_2 l0_2.length c0_2, .slice A0_3 l0_3.length c0_3, .slice A0_4 l0_4.length c0_4, .slice A0_5 l0_5.length c0_5] 28 (0, 0)) ∧ Below w.heap.size w W1 := ⟨_, rfl, hW, hb1⟩
  have FA := Aside0.mk (foot_and (foot_blk (ok := fun k_ => k_ < W1.heap.size) BX (blk_lt BX)) (foot_and (foot_C Kd.heap_string (Kd.C_below hr0_0 HB1)) (foot_and (foot_C heap107 (Kd.C_below hr0_1 HB1)) (foot_and (foot_C (Kd.heap_int .i64) (Kd.C_below hr0_2 HB1)) (foot_and (foot_C (Kd.heap_int .i64) (Kd.C_below hr0_3 HB1)) (foot_and (foot_C heap109 (Kd.C_below hr0_4 HB1)) (foot_and (foot_C heap111 (Kd.C_below hr0_5 HB1)) (foot_and (foot_C (Kd.heap_int .i64) (Kd.C_below hr1 HB1)) (foot_C Kd.heap_bool (Kd.C_below hr2 HB1))))))))))
  have HB := Aside0.mk HB1
  have HQ := Aside0.mk (Nat.le_refl W1.heap.size)
  have HW1 := Aside0.mk hW1
  clear hb1 hW hW1 BX HB1 hr0_0 hr0_1 hr0_2 hr0_3 hr0_4 hr0_5 hr1 hr2
  by_cases hbig1 : (l1.length : Int) > 1048576
  · rw [if_pos hbig1] at h
    obtain rfl := Option.some.inj h
    clear h
    go_enter Tryz.func3, Tryz.ntmps3
    go_wp2
    go_ret
    exact ⟨rfl, by rw [HW1.out]; exact HB.out⟩
  rw [if_neg hbig1] at h
  by_cases hbig2 : (l2.length : Int) > 1048576
  · rw [if_pos hbig2] at h
    obtain rfl := Option.some.inj h
    clear h
    go_enter Tryz.func3, Tryz.ntmps3
    go_wp2
    go_ret
    exact ⟨rfl, by rw [HW1.out]; exact HB.out⟩
  rw [if_neg hbig2] at h
  replace h := Option.bind_eq_some_iff.1 h
  obtain ⟨t, hsz, h⟩ := h
  by_cases h_t : t < 0
  · rw [if_pos h_t] at h
    obtain rfl := Option.some.inj h
    clear h
    go_enter Tryz.func3, Tryz.ntmps3
    go_upto_region 6 with fail
    rw [HW1.out]
    clear HW1
    obtain ⟨hx0, hx1, hx2, hx3, hx4, hx5⟩ := box6 FA.out.now.1
    go_wp2_with (first | (go_at_call 4; (with_reducible refine (laws_szNet.calls kf A0_0 c0_0 l0_0 A0_1 c0_1 l0_1 A0_2 c0_2 l0_2 A0_3 c0_3 l0_3 A0_4 c0_4 l0_4 A0_5 c0_5 l0_5 1048576 t W1 FA.out.now.2.1 hc0_0 FA.out.now.2.2.1 hc0_1 FA.out.now.2.2.2.1 hc0_2 FA.out.now.2.2.2.2.1 hc0_3 FA.out.now.2.2.2.2.2.1 hc0_4 FA.out.now.2.2.2.2.2.2.1 hc0_5 hsz).mono ?_); rintro e w2 ⟨rfl, hb⟩; clear hx0 hx1 hx2 hx3 hx4 hx5; have mFA_ := Aside0.mk (foot_below FA.out hb); have mB_ := Aside0.mk (HB.out.trans (hb.mono HB.out.size)); have mQ_ := Aside0.mk (Nat.le_trans HQ.out hb.size); clear FA HB HQ; have FA := mFA_; have HB := mB_; have HQ := mQ_; clear mFA_ mB_ mQ_; obtain ⟨hx0, hx1, hx2, hx3, hx4, hx5⟩ := box6 FA.out.now.1; clear hb))
    go_ret
    exact ⟨rfl, HB.out⟩
  rw [if_neg h_t] at h
  replace h := Option.bind_eq_some_iff.1 h
  obtain ⟨⟨q0, q1, q2, q3, q4, q5⟩, hto, h⟩ := h
  replace h := Option.bind_eq_some_iff.1 h
  obtain ⟨t1, ht1, h⟩ := h
  replace h := Option.bind_eq_some_iff.1 h
  obtain ⟨t2, ht2, h⟩ := h
  replace h := Option.bind_eq_some_iff.1 h
  obtain ⟨⟨s1, s2⟩, hsp, h⟩ := h
  replace h := Option.bind_eq_some_iff.1 h
  obtain ⟨g, him, h⟩ := h
  replace h := Option.bind_eq_some_iff.1 h
  obtain ⟨b1, heb, h⟩ := h
  replace h := Option.bind_eq_some_iff.1 h
  obtain ⟨b2, hen, h⟩ := h
  replace h := Option.bind_eq_some_iff.1 h
  obtain ⟨b3, he1, h⟩ := h
  replace h := Option.bind_eq_some_iff.1 h
  obtain ⟨b4, he2, h⟩ := h
  replace h := Option.bind_eq_some_iff.1 h
  obtain ⟨⟨m0, n0, n1, n2, n3, n4, n5⟩, hmn, h⟩ := h
  replace h := Option.bind_eq_some_iff.1 h
  obtain ⟨⟨m1, tm1⟩, hm1, h⟩ := h
  replace h := Option.bind_eq_some_iff.1 h
  obtain ⟨⟨m2, tm2⟩, hm2, h⟩ := h
  replace h := Option.bind_eq_some_iff.1 h
  obtain ⟨⟨hz, G⟩, hmg, h⟩ := h
  replace h := Option.bind_eq_some_iff.1 h
  obtain ⟨hh, hhb, h⟩ := h
  simp only at hsp him heb hen hmn he1 he2 hm1 hm2 hmg hhb h
  by_cases hc : g = (s1, s2) ∧ b1 = true ∧ b2 = true ∧ b3 = true ∧ b4 = true ∧ 0 ≤ m2 ∧ hh = hz ∧ 0 ≤ hz ∧ G.length = s1.length
  · rw [if_pos hc] at h
    obtain ⟨rfl, rfl, rfl, rfl, rfl, hk0, hhz, hk1, hGl⟩ := hc
    subst hhz
    obtain rfl := Option.some.inj h
    clear h
    have hne2 : (s2 != s2) = false := by simp
    have hne3 : (hh != hh) = false := by simp
    have hnk : ¬ m2 < 0 := by omega
    have hnh : ¬ hh < 0 := by omega
    clear hk0 hk1
    go_enter Tryz.func3, Tryz.ntmps3
    go_upto_region 6 with fail
    rw [HW1.out]
    clear HW1
    obtain ⟨hx0, hx1, hx2, hx3, hx4, hx5⟩ := box6 FA.out.now.1
    go_upto_region 9 with (first | (go_at_call 4; (with_reducible refine (laws_szNet.calls kf A0_0 c0_0 l0_0 A0_1 c0_1 l0_1 A0_2 c0_2 l0_2 A0_3 c0_3 l0_3 A0_4 c0_4 l0_4 A0_5 c0_5 l0_5 1048576 t W1 FA.out.now.2.1 hc0_0 FA.out.now.2.2.1 hc0_1 FA.out.now.2.2.2.1 hc0_2 FA.out.now.2.2.2.2.1 hc0_3 FA.out.now.2.2.2.2.2.1 hc0_4 FA.out.now.2.2.2.2.2.2.1 hc0_5 hsz).mono ?_); rintro e w2 ⟨rfl, hb⟩; clear hx0 hx1 hx2 hx3 hx4 hx5; have mFA_ := Aside0.mk (foot_below FA.out hb); have mB_ := Aside0.mk (HB.out.trans (hb.mono HB.out.size)); have mQ_ := Aside0.mk (Nat.le_trans HQ.out hb.size); clear FA HB HQ; have FA := mFA_; have HB := mB_; have HQ := mQ_; clear mFA_ mB_ mQ_; obtain ⟨hx0, hx1, hx2, hx3, hx4, hx5⟩ := box6 FA.out.now.1; clear hb))
    go_upto_region 10 with (first
      | (go_at_call 6; (with_reducible refine (toNet_any (kf := kf) w.heap.size HB.out.size A0_0 c0_0 l0_0 A0_1 c0_1 l0_1 A0_2 c0_2 l0_2 A0_3 c0_3 l0_3 A0_4 c0_4 l0_4 A0_5 c0_5 l0_5 q0 q1 q2 q3 q4 q5 FA.out.now.2.1 hc0_0 FA.out.now.2.2.1 hc0_1 FA.out.now.2.2.2.1 hc0_2 FA.out.now.2.2.2.2.1 hc0_3 FA.out.now.2.2.2.2.2.1 hc0_4 FA.out.now.2.2.2.2.2.2.1 hc0_5 hto).mono ?_); rintro e w3a ⟨A3_0, c3_0, A3_1, c3_1, A3_2, c3_2, A3_3, c3_3, A3_4, c3_4, A3_5, c3_5, rfl, hN_, -, hb⟩; clear hx0 hx1 hx2 hx3 hx4 hx5; have mFA_ := Aside0.mk (foot_below FA.out hb); have mB_ := Aside0.mk (HB.out.trans (hb.mono HB.out.size)); have mQ_ := Aside0.mk (Nat.le_trans HQ.out hb.size); clear FA HB HQ; have FA := mFA_; have HB := mB_; have HQ := mQ_; clear mFA_ mB_ mQ_; obtain ⟨hx0, hx1, hx2, hx3, hx4, hx5⟩ := box6 FA.out.now.1; clear hb; have HN3 := Aside0.mk (NP.foot hN_); clear hN_)
      | (go_at_call 7; (with_reducible refine (laws_toIntS.calls kf A1 c1 l1 t1 _ FA.out.now.2.2.2.2.2.2.2.1 hc1 ht1).mono ?_); rintro e w3r1 ⟨v3, rfl, hR_, hb⟩; clear hx0 hx1 hx2 hx3 hx4 hx5; have mFA_ := Aside0.mk (foot_below FA.out hb); have mHN3_ := Aside0.mk (foot_below HN3.out hb); have mB_ := Aside0.mk (HB.out.trans (hb.mono HB.out.size)); have mQ_ := Aside0.mk (Nat.le_trans HQ.out hb.size); clear FA HN3 HB HQ; have FA := mFA_; have HN3 := mHN3_; have HB := mB_; have HQ := mQ_; clear mFA_ mHN3_ mB_ mQ_; obtain ⟨hx0, hx1, hx2, hx3, hx4, hx5⟩ := box6 FA.out.now.1; clear hb; obtain ⟨A3_r1, c3_r1, ev_⟩ := Kd.R_slice hR_; subst ev_; have HR3_1 := Aside0.mk (foot_R hR_); clear hR_)
      | (go_at_call 8; (with_reducible refine (laws_toBoolS.calls kf A2 c2 l2 t2 _ FA.out.now.2.2.2.2.2.2.2.2 hc2 ht2).mono ?_); rintro e w3r2 ⟨v3, rfl, hR_, hb⟩; clear hx0 hx1 hx2 hx3 hx4 hx5; have mFA_ := Aside0.mk (foot_below FA.out hb); have mHN3_ := Aside0.mk (foot_below HN3.out hb); have mHR3_1_ := Aside0.mk (foot_below HR3_1.out hb); have mB_ := Aside0.mk (HB.out.trans (hb.mono HB.out.size)); have mQ_ := Aside0.mk (Nat.le_trans HQ.out hb.size); clear FA HN3 HR3_1 HB HQ; have FA := mFA_; have HN3 := mHN3_; have HR3_1 := mHR3_1_; have HB := mB_; have HQ := mQ_; clear mFA_ mHN3_ mHR3_1_ mB_ mQ_; obtain ⟨hx0, hx1, hx2, hx3, hx4, hx5⟩ := box6 FA.out.now.1; clear hb; obtain ⟨A3_r2, c3_r2, ev_⟩ := Kd.R_slice hR_; subst ev_; have HR3_2 := Aside0.mk (foot_R hR_); clear hR_)
      | (go_at_call 5; (with_reducible refine (spec_Settle_any (kf := kf) HN3.out.now (Kd.R_reads' HR3_1.out.now).2.2 (Kd.R_reads' HR3_1.out.now).2.1 (Kd.R_reads' HR3_2.out.now).2.2 (Kd.R_reads' HR3_2.out.now).2.1 hsp).mono ?_); rintro e w4 ⟨⟨v4, rfl, hR4⟩, hb⟩; have HB3 := HB; clear HN3 HR3_1 HR3_2; clear hx0 hx1 hx2 hx3 hx4 hx5; have mFA_ := Aside0.mk (foot_below FA.out hb); have mB_ := Aside0.mk (HB.out.trans (hb.mono HB.out.size)); have mQ_ := Aside0.mk (Nat.le_trans HQ.out hb.size); clear FA HB HQ; have FA := mFA_; have HB := mB_; have HQ := mQ_; clear mFA_ mB_ mQ_; obtain ⟨hx0, hx1, hx2, hx3, hx4, hx5⟩ := box6 FA.out.now.1; clear hb; obtain ⟨A9, c9, ev4⟩ := Kd.R_slice hR4; subst ev4; have FW := Aside0.mk (foot_R (Kd.R_mono (ok' := fun k_ => k_ < w4.heap.size) (Kd.R_bound (Kd.R_lower hR4 HB3.out.size)) (fun k_ hk_ => hk_.2.2.1))); clear hR4 HB3))
    go_upto_region 11 with (go_at_call 6; (with_reducible refine (toNet_any (kf := kf) w.heap.size HB.out.size A0_0 c0_0 l0_0 A0_1 c0_1 l0_1 A0_2 c0_2 l0_2 A0_3 c0_3 l0_3 A0_4 c0_4 l0_4 A0_5 c0_5 l0_5 q0 q1 q2 q3 q4 q5 FA.out.now.2.1 hc0_0 FA.out.now.2.2.1 hc0_1 FA.out.now.2.2.2.1 hc0_2 FA.out.now.2.2.2.2.1 hc0_3 FA.out.now.2.2.2.2.2.1 hc0_4 FA.out.now.2.2.2.2.2.2.1 hc0_5 hto).mono ?_); rintro e w5 ⟨A5_0, c5_0, A5_1, c5_1, A5_2, c5_2, A5_3, c5_3, A5_4, c5_4, A5_5, c5_5, rfl, hN_, hap, hb⟩; have HS5 := Aside0.mk (NP.foot hN_); have HAP := Aside0.mk hap; clear hN_ hap; have HL5 := Aside0.mk hb.size; have HLE := Aside0.mk HQ.out; clear hx0 hx1 hx2 hx3 hx4 hx5; have mFA_ := Aside0.mk (foot_below FA.out hb); have mFW_ := Aside0.mk (foot_below FW.out hb); have mB_ := Aside0.mk (HB.out.trans (hb.mono HB.out.size)); have mQ_ := Aside0.mk (Nat.le_trans HQ.out hb.size); clear FA FW HB HQ; have FA := mFA_; have FW := mFW_; have HB := mB_; have HQ := mQ_; clear mFA_ mFW_ mB_ mQ_; obtain ⟨hx0, hx1, hx2, hx3, hx4, hx5⟩ := box6 FA.out.now.1; clear hb)
    have hb6 := (below_alloc (Below.refl w5.heap.size w5) (.cells #[.slice A5_0 q0.length c5_0, .slice A5_1 q1.length c5_1, .slice A5_2 q2.length c5_2, .slice A5_3 q3.length c5_3, .slice A5_4 q4.length c5_4, .slice A5_5 q5.length c5_5] 38))
    have hg6 := blk_new w5 (.cells #[.slice A5_0 q0.length c5_0, .slice A5_1 q1.length c5_1, .slice A5_2 q2.length c5_2, .slice A5_3 q3.length c5_3, .slice A5_4 q4.length c5_4, .slice A5_5 q5.length c5_5] 38)
    generalize w5.alloc (.cells #[.slice A5_0 q0.length c5_0, .slice A5_1 q1.length c5_1, .slice A5_2 q2.length c5_2, .slice A5_3 q3.length c5_3, .slice A5_4 q4.length c5_4, .slice A5_5 q5.length c5_5] 38) = w6 at hb6 hg6 ⊢
    have HG6 := Aside0.mk (foot_blk (ok := fun k_ => w4.heap.size ≤ k_ ∧ k_ < w6.heap.size) hg6 ⟨HL5.out, blk_lt hg6⟩)
    obtain ⟨hgx0, hgx1, hgx2, hgx3, hgx4, hgx5⟩ := box6 hg6
    have H6 := Aside0.mk hb6.size
    clear hx0 hx1 hx2 hx3 hx4 hx5
    have mFA_ := Aside0.mk (foot_below FA.out hb6)
    have mFW_ := Aside0.mk (foot_below FW.out hb6)
    have mHS5_ := Aside0.mk (foot_below HS5.out hb6)
    have mB_ := Aside0.mk (HB.out.trans (hb6.mono HB.out.size))
    have mQ_ := Aside0.mk (Nat.le_trans HQ.out hb6.size)
    clear FA FW HS5 HB HQ
    have FA := mFA_
    have FW := mFW_
    have HS5 := mHS5_
    have HB := mB_
    have HQ := mQ_
    clear mFA_ mFW_ mHS5_ mB_ mQ_
    obtain ⟨hx0, hx1, hx2, hx3, hx4, hx5⟩ := box6 FA.out.now.1
    clear hb6 hg6
    go_upto_region 12 with (go_at_call 7; (with_reducible refine (laws_toIntS.calls kf A1 c1 l1 t1 _ FA.out.now.2.2.2.2.2.2.2.1 hc1 ht1).mono ?_); rintro e wx1 ⟨v6, rfl, hR6, hb⟩; have HX1 := Aside0.mk (foot_R (Kd.R_lower (Kd.R_mono (ok' := fun k_ => w6.heap.size ≤ k_ ∧ k_ < wx1.heap.size) (Kd.R_bound hR6) (fun k_ hk_ => ⟨hk_.2.1, hk_.2.2.1⟩)) HB.out.size)); have HZ1 := Aside0.mk hb.size; clear hx0 hx1 hx2 hx3 hx4 hx5; clear hgx0 hgx1 hgx2 hgx3 hgx4 hgx5; have mFA_ := Aside0.mk (foot_below FA.out hb); have mFW_ := Aside0.mk (foot_below FW.out hb); have mHS5_ := Aside0.mk (foot_below HS5.out hb); have mHG6_ := Aside0.mk (foot_below HG6.out hb); have mB_ := Aside0.mk (HB.out.trans (hb.mono HB.out.size)); have mQ_ := Aside0.mk (Nat.le_trans HQ.out hb.size); clear FA FW HS5 HG6 HB HQ; have FA := mFA_; have FW := mFW_; have HS5 := mHS5_; have HG6 := mHG6_; have HB := mB_; have HQ := mQ_; clear mFA_ mFW_ mHS5_ mHG6_ mB_ mQ_; obtain ⟨hx0, hx1, hx2, hx3, hx4, hx5⟩ := box6 FA.out.now.1; obtain ⟨hgx0, hgx1, hgx2, hgx3, hgx4, hgx5⟩ := box6 HG6.out.now; clear hb; obtain ⟨A6_1, c6_1, ev6⟩ := Kd.R_slice hR6; clear hR6; subst ev6)
    go_upto_region 13 with (go_at_call 8; (with_reducible refine (laws_toBoolS.calls kf A2 c2 l2 t2 _ FA.out.now.2.2.2.2.2.2.2.2 hc2 ht2).mono ?_); rintro e wx2 ⟨v6, rfl, hR6, hb⟩; have HX2 := Aside0.mk (foot_R (Kd.R_lower (Kd.R_mono (ok' := fun k_ => wx1.heap.size ≤ k_ ∧ k_ < wx2.heap.size) (Kd.R_bound hR6) (fun k_ hk_ => ⟨hk_.2.1, hk_.2.2.1⟩)) HB.out.size)); have HZ2 := Aside0.mk hb.size; clear hx0 hx1 hx2 hx3 hx4 hx5; clear hgx0 hgx1 hgx2 hgx3 hgx4 hgx5; have mFA_ := Aside0.mk (foot_below FA.out hb); have mFW_ := Aside0.mk (foot_below FW.out hb); have mHS5_ := Aside0.mk (foot_below HS5.out hb); have mHG6_ := Aside0.mk (foot_below HG6.out hb); have mHX1_ := Aside0.mk (foot_below HX1.out hb); have mB_ := Aside0.mk (HB.out.trans (hb.mono HB.out.size)); have mQ_ := Aside0.mk (Nat.le_trans HQ.out hb.size); clear FA FW HS5 HG6 HX1 HB HQ; have FA := mFA_; have FW := mFW_; have HS5 := mHS5_; have HG6 := mHG6_; have HX1 := mHX1_; have HB := mB_; have HQ := mQ_; clear mFA_ mFW_ mHS5_ mHG6_ mHX1_ mB_ mQ_; obtain ⟨hx0, hx1, hx2, hx3, hx4, hx5⟩ := box6 FA.out.now.1; obtain ⟨hgx0, hgx1, hgx2, hgx3, hgx4, hgx5⟩ := box6 HG6.out.now; clear hb; obtain ⟨A6_2, c6_2, ev6⟩ := Kd.R_slice hR6; clear hR6; subst ev6)
    go_upto_region 14 with (go_at_call 9; (with_reducible refine (impl_Settle_any (kf := kf) HS5.out.now (Kd.R_reads' HX1.out.now).2.2 (Kd.R_reads' HX1.out.now).2.1 (Kd.R_reads' HX2.out.now).2.2 (Kd.R_reads' HX2.out.now).2.1 him).mono ?_); rintro e w8 ⟨⟨v7, rfl, hR7⟩, hb⟩; have HR7 := Aside0.mk (foot_R (Kd.R_lower (Kd.R_mono (ok' := fun k_ => wx2.heap.size ≤ k_) (Kd.R_bound hR7) (fun k_ hk_ => hk_.2.1)) HB.out.size)); clear hx0 hx1 hx2 hx3 hx4 hx5; clear hgx0 hgx1 hgx2 hgx3 hgx4 hgx5; have mFA_ := Aside0.mk (foot_below FA.out hb); have mFW_ := Aside0.mk (foot_below FW.out hb); have mHS5_ := Aside0.mk (foot_below HS5.out hb); have mHG6_ := Aside0.mk (foot_below HG6.out hb); have mHX1_ := Aside0.mk (foot_below HX1.out hb); have mHX2_ := Aside0.mk (foot_below HX2.out hb); have mB_ := Aside0.mk (HB.out.trans (hb.mono HB.out.size)); have mQ_ := Aside0.mk (Nat.le_trans HQ.out hb.size); clear FA FW HS5 HG6 HX1 HX2 HB HQ; have FA := mFA_; have FW := mFW_; have HS5 := mHS5_; have HG6 := mHG6_; have HX1 := mHX1_; have HX2 := mHX2_; have HB := mB_; have HQ := mQ_; clear mFA_ mFW_ mHS5_ mHG6_ mHX1_ mHX2_ mB_ mQ_; obtain ⟨hx0, hx1, hx2, hx3, hx4, hx5⟩ := box6 FA.out.now.1; obtain ⟨hgx0, hgx1, hgx2, hgx3, hgx4, hgx5⟩ := box6 HG6.out.now; clear hb; obtain ⟨A7, c7, ev7⟩ := Kd.R_slice hR7; clear hR7; subst ev7)
    go_upto_region 16 with (go_at_call 10; (with_reducible refine (laws_eqRouteS.calls kf A7 c7 s1 A9 c9 s1 true _ (Kd.R_reads' HR7.out.now).2.2 (Kd.R_reads' HR7.out.now).2.1 (Kd.R_reads' FW.out.now).2.2 (Kd.R_reads' FW.out.now).2.1 heb).mono ?_); rintro e w9 ⟨rfl, hb⟩; clear hx0 hx1 hx2 hx3 hx4 hx5; clear hgx0 hgx1 hgx2 hgx3 hgx4 hgx5; have mFA_ := Aside0.mk (foot_below FA.out hb); have mFW_ := Aside0.mk (foot_below FW.out hb); have mHS5_ := Aside0.mk (foot_below HS5.out hb); have mHG6_ := Aside0.mk (foot_below HG6.out hb); have mHX1_ := Aside0.mk (foot_below HX1.out hb); have mHX2_ := Aside0.mk (foot_below HX2.out hb); have mHR7_ := Aside0.mk (foot_below HR7.out hb); have mB_ := Aside0.mk (HB.out.trans (hb.mono HB.out.size)); have mQ_ := Aside0.mk (Nat.le_trans HQ.out hb.size); clear FA FW HS5 HG6 HX1 HX2 HR7 HB HQ; have FA := mFA_; have FW := mFW_; have HS5 := mHS5_; have HG6 := mHG6_; have HX1 := mHX1_; have HX2 := mHX2_; have HR7 := mHR7_; have HB := mB_; have HQ := mQ_; clear mFA_ mFW_ mHS5_ mHG6_ mHX1_ mHX2_ mHR7_ mB_ mQ_; obtain ⟨hx0, hx1, hx2, hx3, hx4, hx5⟩ := box6 FA.out.now.1; obtain ⟨hgx0, hgx1, hgx2, hgx3, hgx4, hgx5⟩ := box6 HG6.out.now; clear hb)
    have hbd := below_drew (Below.refl w9.heap.size w9)
    clear hx0 hx1 hx2 hx3 hx4 hx5
    clear hgx0 hgx1 hgx2 hgx3 hgx4 hgx5
    have mFA_ := Aside0.mk (foot_below FA.out hbd)
    have mFW_ := Aside0.mk (foot_below FW.out hbd)
    have mHS5_ := Aside0.mk (foot_below HS5.out hbd)
    have mHG6_ := Aside0.mk (foot_below HG6.out hbd)
    have mHX1_ := Aside0.mk (foot_below HX1.out hbd)
    have mHX2_ := Aside0.mk (foot_below HX2.out hbd)
    have mHR7_ := Aside0.mk (foot_below HR7.out hbd)
    have mB_ := Aside0.mk (HB.out.trans (hbd.mono HB.out.size))
    have mQ_ := Aside0.mk (Nat.le_trans HQ.out hbd.size)
    clear FA FW HS5 HG6 HX1 HX2 HR7 HB HQ
    have FA := mFA_
    have FW := mFW_
    have HS5 := mHS5_
    have HG6 := mHG6_
    have HX1 := mHX1_
    have HX2 := mHX2_
    have HR7 := mHR7_
    have HB := mB_
    have HQ := mQ_
    clear mFA_ mFW_ mHS5_ mHG6_ mHX1_ mHX2_ mHR7_ mB_ mQ_
    obtain ⟨hx0, hx1, hx2, hx3, hx4, hx5⟩ := box6 FA.out.now.1
    obtain ⟨hgx0, hgx1, hgx2, hgx3, hgx4, hgx5⟩ := box6 HG6.out.now
    clear hbd
    generalize hw9 : w9.drew = w10 at *
    refine start_ (n := 5) (S := fun w' => w'.cell? ⟨w.heap.size, 0, none⟩ = some (.slice A0_0 l0_0.length c0_0) ∧ w'.cell? ⟨w.heap.size, 1, none⟩ = some (.slice A0_1 l0_1.length c0_1) ∧ w'.cell? ⟨w.heap.size, 2, none⟩ = some (.slice A0_2 l0_2.length c0_2) ∧ w'.cell? ⟨w.heap.size, 3, none⟩ = some (.slice A0_3 l0_3.length c0_3) ∧ w'.cell? ⟨w.heap.size, 4, none⟩ = some (.slice A0_4 l0_4.length c0_4) ∧ w'.cell? ⟨w.heap.size, 5, none⟩ = some (.slice A0_5 l0_5.length c0_5) ∧ w'.cell? ⟨w5.heap.size, 0, none⟩ = some (.slice A5_0 q0.length c5_0) ∧ w'.cell? ⟨w5.heap.size, 1, none⟩ = some (.slice A5_1 q1.length c5_1) ∧ w'.cell? ⟨w5.heap.size, 2, none⟩ = some (.slice A5_2 q2.length c5_2) ∧ w'.cell? ⟨w5.heap.size, 3, none⟩ = some (.slice A5_3 q3.length c5_3) ∧ w'.cell? ⟨w5.heap.size, 4, none⟩ = some (.slice A5_4 q4.length c5_4) ∧ w'.cell? ⟨w5.heap.size, 5, none⟩ = some (.slice A5_5 q5.length c5_5)) (ds := []) #[false, false, false, false, false] (by kernel_rfl) rfl rfl (by rw [hw9]; exact ⟨hx0, hx1, hx2, hx3, hx4, hx5, hgx0, hgx1, hgx2, hgx3, hgx4, hgx5⟩) (fun hHeld => ?_)
    refine with_tabW lawZ_tab lawZ_bits (fun HT_ HW_ => ?_)
    rw [hw9] at hHeld ⊢
    clear hw9
    refine take_ (i := 0) (N := some 67) (v := ?_) (a' := ?_) #[true, false, false, false, false] rfl rfl (take_ofW HT_.out HW_.out (by kernel_rfl)) (fun _ _ _ h => h) (Or.inl ⟨by rfl, ?_⟩) hHeld ?_ ?_
    rotate_left
    · rintro w' ⟨s0, s1, s2, s3, s4, s5, s6, s7, s8, s9, s10, s11⟩
      go_simp
      with_reducible rfl
    rotate_left
    · simp only [Act.put, List.setIfInBounds_toArray, List.set_cons_zero, List.set_cons_succ, i64_w, i32_w]
      rfl
    refine take_ (i := 1) (N := some 68) (v := ?_) (a' := ?_) #[true, true, false, false, false] rfl rfl (take_ofW HT_.out HW_.out (by kernel_rfl)) (fun _ _ _ h => h) (Or.inl ⟨by rfl, ?_⟩) hHeld ?_ ?_
    rotate_left
    · rintro w' ⟨s0, s1, s2, s3, s4, s5, s6, s7, s8, s9, s10, s11⟩
      go_simp
      with_reducible rfl
    rotate_left
    · simp only [Act.put, List.setIfInBounds_toArray, List.set_cons_zero, List.set_cons_succ, i64_w, i32_w]
      rfl
    refine one_ (i := 2) (N := some 69) #[true, true, true, false, false] rfl rfl (one_of HT_.out (by kernel_rfl)) (by decide) (fun K hK => ?_)
    refine call_ 6 #[.agg #[.slice A0_0 l0_0.length c0_0, .slice A0_1 l0_1.length c0_1, .slice A0_2 l0_2.length c0_2, .slice A0_3 l0_3.length c0_3, .slice A0_4 l0_4.length c0_4, .slice A0_5 l0_5.length c0_5]] (by rfl) rfl ?hrun2 ?h2
    case hrun2 =>
      have he := enters_of Tryz.func6 (by kernel_rfl) rfl
      unfold execOp
      simp [resolve, Deferred.ofValue, invoke, Act.eval, he]
    refine (toNet_any (kf := kf) w.heap.size HB.out.size A0_0 c0_0 l0_0 A0_1 c0_1 l0_1 A0_2 c0_2 l0_2 A0_3 c0_3 l0_3 A0_4 c0_4 l0_4 A0_5 c0_5 l0_5 q0 q1 q2 q3 q4 q5 FA.out.now.2.1 hc0_0 FA.out.now.2.2.1 hc0_1 FA.out.now.2.2.2.1 hc0_2 FA.out.now.2.2.2.2.1 hc0_3 FA.out.now.2.2.2.2.2.1 hc0_4 FA.out.now.2.2.2.2.2.2.1 hc0_5 hto).mono ?_
    rintro e w11 ⟨A10_0, c10_0, A10_1, c10_1, A10_2, c10_2, A10_3, c10_3, A10_4, c10_4, A10_5, c10_5, rfl, hN_, -, hb⟩
    refine ⟨_, rfl, ?_⟩
    clear hx0 hx1 hx2 hx3 hx4 hx5
    clear hgx0 hgx1 hgx2 hgx3 hgx4 hgx5
    have mFA_ := Aside0.mk (foot_below FA.out hb)
    have mFW_ := Aside0.mk (foot_below FW.out hb)
    have mHS5_ := Aside0.mk (foot_below HS5.out hb)
    have mHG6_ := Aside0.mk (foot_below HG6.out hb)
    have mHX1_ := Aside0.mk (foot_below HX1.out hb)
    have mHX2_ := Aside0.mk (foot_below HX2.out hb)
    have mHR7_ := Aside0.mk (foot_below HR7.out hb)
    have mB_ := Aside0.mk (HB.out.trans (hb.mono HB.out.size))
    have mQ_ := Aside0.mk (Nat.le_trans HQ.out hb.size)
    clear FA FW HS5 HG6 HX1 HX2 HR7 HB HQ
    have FA := mFA_
    have FW := mFW_
    have HS5 := mHS5_
    have HG6 := mHG6_
    have HX1 := mHX1_
    have HX2 := mHX2_
    have HR7 := mHR7_
    have HB := mB_
    have HQ := mQ_
    clear mFA_ mFW_ mHS5_ mHG6_ mHX1_ mHX2_ mHR7_ mB_ mQ_
    obtain ⟨hx0, hx1, hx2, hx3, hx4, hx5⟩ := box6 FA.out.now.1
    obtain ⟨hgx0, hgx1, hgx2, hgx3, hgx4, hgx5⟩ := box6 HG6.out.now
    clear hb
    have HN10 := Aside0.mk hN_
    clear hN_
    refine hK.out _ _ ⟨hx0, hx1, hx2, hx3, hx4, hx5, hgx0, hgx1, hgx2, hgx3, hgx4, hgx5⟩ (fun hHeld => ?_)
    clear hK K
    refine norm_ (a' := ?_) ?_ ?_
    rotate_left
    · show Act.put _ (some 69) _ = _
      simp only [Act.put, List.setIfInBounds_toArray, List.set_cons_zero, List.set_cons_succ, i64_w, i32_w]
      rfl
    refine one_ (i := 3) (N := some 70) #[true, true, true, true, false] rfl rfl (one_of HT_.out (by kernel_rfl)) (by decide) (fun K hK => ?_)
    refine call_ 11 #[.agg #[.slice A5_0 q0.length c5_0, .slice A5_1 q1.length c5_1, .slice A5_2 q2.length c5_2, .slice A5_3 q3.length c5_3, .slice A5_4 q4.length c5_4, .slice A5_5 q5.length c5_5], .agg #[.slice A10_0 q0.length c10_0, .slice A10_1 q1.length c10_1, .slice A10_2 q2.length c10_2, .slice A10_3 q3.length c10_3, .slice A10_4 q4.length c10_4, .slice A10_5 q5.length c10_5]] (by rfl) rfl ?hrun3 ?h3
    case hrun3 =>
      have he := enters_of Tryz.func11 (by kernel_rfl) rfl
      unfold execOp
      simp [resolve, Deferred.ofValue, invoke, Act.eval, he]
    refine (eqNet_any (kf := kf) HS5.out.now HN10.out hen).mono ?_
    rintro e w12 ⟨rfl, hb⟩
    refine ⟨_, rfl, ?_⟩
    clear HN10
    clear hx0 hx1 hx2 hx3 hx4 hx5
    clear hgx0 hgx1 hgx2 hgx3 hgx4 hgx5
    have mFA_ := Aside0.mk (foot_below FA.out hb)
    have mFW_ := Aside0.mk (foot_below FW.out hb)
    have mHS5_ := Aside0.mk (foot_below HS5.out hb)
    have mHG6_ := Aside0.mk (foot_below HG6.out hb)
    have mHX1_ := Aside0.mk (foot_below HX1.out hb)
    have mHX2_ := Aside0.mk (foot_below HX2.out hb)
    have mHR7_ := Aside0.mk (foot_below HR7.out hb)
    have mB_ := Aside0.mk (HB.out.trans (hb.mono HB.out.size))
    have mQ_ := Aside0.mk (Nat.le_trans HQ.out hb.size)
    clear FA FW HS5 HG6 HX1 HX2 HR7 HB HQ
    have FA := mFA_
    have FW := mFW_
    have HS5 := mHS5_
    have HG6 := mHG6_
    have HX1 := mHX1_
    have HX2 := mHX2_
    have HR7 := mHR7_
    have HB := mB_
    have HQ := mQ_
    clear mFA_ mFW_ mHS5_ mHG6_ mHX1_ mHX2_ mHR7_ mB_ mQ_
    obtain ⟨hx0, hx1, hx2, hx3, hx4, hx5⟩ := box6 FA.out.now.1
    obtain ⟨hgx0, hgx1, hgx2, hgx3, hgx4, hgx5⟩ := box6 HG6.out.now
    clear hb
    refine hK.out _ _ ⟨hx0, hx1, hx2, hx3, hx4, hx5, hgx0, hgx1, hgx2, hgx3, hgx4, hgx5⟩ (fun hHeld => ?_)
    clear hK K
    refine norm_ (a' := ?_) ?_ ?_
    rotate_left
    · show Act.put _ (some 70) _ = _
      simp only [Act.put, List.setIfInBounds_toArray, List.set_cons_zero, List.set_cons_succ, i64_w, i32_w]
      rfl
    refine pure_ (i := 4) (N := some 71) (v := ?_) (a' := ?_) #[true, true, true, true, true] rfl rfl (any_of HT_.out (by kernel_rfl)) (fun _ _ _ h => h) (Or.inl ⟨by rfl, ?_⟩) ?_ ?_
    rotate_left
    · intro w'
      go_simp
      with_reducible rfl
    rotate_left
    · simp only [Act.put, List.setIfInBounds_toArray, List.set_cons_zero, List.set_cons_succ, i64_w, i32_w]
      rfl
    refine done_ (done_of HT_.out (by kernel_rfl)) ?_
    clear hHeld HT_ HW_
    go_upto_region 20 with (first
      | (go_at_call 7; (with_reducible refine (laws_toIntS.calls kf A1 c1 l1 t1 _ FA.out.now.2.2.2.2.2.2.2.1 hc1 ht1).mono ?_); rintro e wy1 ⟨v13, rfl, hR13, hb⟩; clear hx0 hx1 hx2 hx3 hx4 hx5; clear hgx0 hgx1 hgx2 hgx3 hgx4 hgx5; have mFA_ := Aside0.mk (foot_below FA.out hb); have mFW_ := Aside0.mk (foot_below FW.out hb); have mHS5_ := Aside0.mk (foot_below HS5.out hb); have mHG6_ := Aside0.mk (foot_below HG6.out hb); have mHX1_ := Aside0.mk (foot_below HX1.out hb); have mHX2_ := Aside0.mk (foot_below HX2.out hb); have mHR7_ := Aside0.mk (foot_below HR7.out hb); have mB_ := Aside0.mk (HB.out.trans (hb.mono HB.out.size)); have mQ_ := Aside0.mk (Nat.le_trans HQ.out hb.size); clear FA FW HS5 HG6 HX1 HX2 HR7 HB HQ; have FA := mFA_; have FW := mFW_; have HS5 := mHS5_; have HG6 := mHG6_; have HX1 := mHX1_; have HX2 := mHX2_; have HR7 := mHR7_; have HB := mB_; have HQ := mQ_; clear mFA_ mFW_ mHS5_ mHG6_ mHX1_ mHX2_ mHR7_ mB_ mQ_; obtain ⟨hx0, hx1, hx2, hx3, hx4, hx5⟩ := box6 FA.out.now.1; obtain ⟨hgx0, hgx1, hgx2, hgx3, hgx4, hgx5⟩ := box6 HG6.out.now; clear hb; obtain ⟨A13, c13, ev_, hl13, hC13⟩ := Kd.R_reads hR13; clear hR13; subst ev_)
      | (go_at_call 12; (with_reducible refine (laws_eqIntS.calls kf A6_1 c6_1 t1 A13 c13 t1 true _ (Kd.R_reads' HX1.out.now).2.2 (Kd.R_reads' HX1.out.now).2.1 hC13 hl13 he1).mono ?_); rintro e wz1 ⟨rfl, hd⟩; clear hC13 hl13; have hb := drawn_below hd; clear hd; clear hx0 hx1 hx2 hx3 hx4 hx5; clear hgx0 hgx1 hgx2 hgx3 hgx4 hgx5; have mFA_ := Aside0.mk (foot_below FA.out hb); have mFW_ := Aside0.mk (foot_below FW.out hb); have mHS5_ := Aside0.mk (foot_below HS5.out hb); have mHG6_ := Aside0.mk (foot_below HG6.out hb); have mHX1_ := Aside0.mk (foot_below HX1.out hb); have mHX2_ := Aside0.mk (foot_below HX2.out hb); have mHR7_ := Aside0.mk (foot_below HR7.out hb); have mB_ := Aside0.mk (HB.out.trans (hb.mono HB.out.size)); have mQ_ := Aside0.mk (Nat.le_trans HQ.out hb.size); clear FA FW HS5 HG6 HX1 HX2 HR7 HB HQ; have FA := mFA_; have FW := mFW_; have HS5 := mHS5_; have HG6 := mHG6_; have HX1 := mHX1_; have HX2 := mHX2_; have HR7 := mHR7_; have HB := mB_; have HQ := mQ_; clear mFA_ mFW_ mHS5_ mHG6_ mHX1_ mHX2_ mHR7_ mB_ mQ_; obtain ⟨hx0, hx1, hx2, hx3, hx4, hx5⟩ := box6 FA.out.now.1; obtain ⟨hgx0, hgx1, hgx2, hgx3, hgx4, hgx5⟩ := box6 HG6.out.now; clear hb))
    go_upto_region 23 with (first
      | (go_at_call 8; (with_reducible refine (laws_toBoolS.calls kf A2 c2 l2 t2 _ FA.out.now.2.2.2.2.2.2.2.2 hc2 ht2).mono ?_); rintro e wy2 ⟨v13, rfl, hR13, hb⟩; clear hx0 hx1 hx2 hx3 hx4 hx5; clear hgx0 hgx1 hgx2 hgx3 hgx4 hgx5; have mFA_ := Aside0.mk (foot_below FA.out hb); have mFW_ := Aside0.mk (foot_below FW.out hb); have mHS5_ := Aside0.mk (foot_below HS5.out hb); have mHG6_ := Aside0.mk (foot_below HG6.out hb); have mHX1_ := Aside0.mk (foot_below HX1.out hb); have mHX2_ := Aside0.mk (foot_below HX2.out hb); have mHR7_ := Aside0.mk (foot_below HR7.out hb); have mB_ := Aside0.mk (HB.out.trans (hb.mono HB.out.size)); have mQ_ := Aside0.mk (Nat.le_trans HQ.out hb.size); clear FA FW HS5 HG6 HX1 HX2 HR7 HB HQ; have FA := mFA_; have FW := mFW_; have HS5 := mHS5_; have HG6 := mHG6_; have HX1 := mHX1_; have HX2 := mHX2_; have HR7 := mHR7_; have HB := mB_; have HQ := mQ_; clear mFA_ mFW_ mHS5_ mHG6_ mHX1_ mHX2_ mHR7_ mB_ mQ_; obtain ⟨hx0, hx1, hx2, hx3, hx4, hx5⟩ := box6 FA.out.now.1; obtain ⟨hgx0, hgx1, hgx2, hgx3, hgx4, hgx5⟩ := box6 HG6.out.now; clear hb; obtain ⟨A13, c13, ev_, hl13, hC13⟩ := Kd.R_reads hR13; clear hR13; subst ev_)
      | (go_at_call 13; (with_reducible refine (laws_eqBoolS.calls kf A6_2 c6_2 t2 A13 c13 t2 true _ (Kd.R_reads' HX2.out.now).2.2 (Kd.R_reads' HX2.out.now).2.1 hC13 hl13 he2).mono ?_); rintro e wz2 ⟨rfl, hd⟩; clear hC13 hl13; have hb := drawn_below hd; clear hd; clear hx0 hx1 hx2 hx3 hx4 hx5; clear hgx0 hgx1 hgx2 hgx3 hgx4 hgx5; have mFA_ := Aside0.mk (foot_below FA.out hb); have mFW_ := Aside0.mk (foot_below FW.out hb); have mHS5_ := Aside0.mk (foot_below HS5.out hb); have mHG6_ := Aside0.mk (foot_below HG6.out hb); have mHX1_ := Aside0.mk (foot_below HX1.out hb); have mHX2_ := Aside0.mk (foot_below HX2.out hb); have mHR7_ := Aside0.mk (foot_below HR7.out hb); have mB_ := Aside0.mk (HB.out.trans (hb.mono HB.out.size)); have mQ_ := Aside0.mk (Nat.le_trans HQ.out hb.size); clear FA FW HS5 HG6 HX1 HX2 HR7 HB HQ; have FA := mFA_; have FW := mFW_; have HS5 := mHS5_; have HG6 := mHG6_; have HX1 := mHX1_; have HX2 := mHX2_; have HR7 := mHR7_; have HB := mB_; have HQ := mQ_; clear mFA_ mFW_ mHS5_ mHG6_ mHX1_ mHX2_ mHR7_ mB_ mQ_; obtain ⟨hx0, hx1, hx2, hx3, hx4, hx5⟩ := box6 FA.out.now.1; obtain ⟨hgx0, hgx1, hgx2, hgx3, hgx4, hgx5⟩ := box6 HG6.out.now; clear hb))
    go_upto_region 24 with (go_at_call 14; (with_reducible refine (markNet_any (kf := kf) HB.out HS5.out.now HAP.out hmn).mono ?_); rintro e w15 ⟨rfl, hbB, hbK⟩; clear hx0 hx1 hx2 hx3 hx4 hx5; clear hgx0 hgx1 hgx2 hgx3 hgx4 hgx5; clear HG6 HS5; have mFA_ := Aside0.mk (foot_kept FA.out hbK (fun k_ hk_ hs_ => by have g1_ : k_ < W1.heap.size := hk_; have g2_ : w4.heap.size ≤ k_ ∧ k_ < w5.heap.size := hs_; have := HLE.out; have := HL5.out; have := H6.out; have := HZ1.out; have := HZ2.out; omega)); have mFW_ := Aside0.mk (foot_kept FW.out hbK (fun k_ hk_ hs_ => by have g1_ : k_ < w4.heap.size := hk_; have g2_ : w4.heap.size ≤ k_ ∧ k_ < w5.heap.size := hs_; have := HLE.out; have := HL5.out; have := H6.out; have := HZ1.out; have := HZ2.out; omega)); have mHX1_ := Aside0.mk (foot_kept HX1.out hbK (fun k_ hk_ hs_ => by have g1_ : w6.heap.size ≤ k_ ∧ k_ < wx1.heap.size := hk_; have g2_ : w4.heap.size ≤ k_ ∧ k_ < w5.heap.size := hs_; have := HLE.out; have := HL5.out; have := H6.out; have := HZ1.out; have := HZ2.out; omega)); have mHX2_ := Aside0.mk (foot_kept HX2.out hbK (fun k_ hk_ hs_ => by have g1_ : wx1.heap.size ≤ k_ ∧ k_ < wx2.heap.size := hk_; have g2_ : w4.heap.size ≤ k_ ∧ k_ < w5.heap.size := hs_; have := HLE.out; have := HL5.out; have := H6.out; have := HZ1.out; have := HZ2.out; omega)); have mHR7_ := Aside0.mk (foot_kept HR7.out hbK (fun k_ hk_ hs_ => by have g1_ : wx2.heap.size ≤ k_ := hk_; have g2_ : w4.heap.size ≤ k_ ∧ k_ < w5.heap.size := hs_; have := HLE.out; have := HL5.out; have := H6.out; have := HZ1.out; have := HZ2.out; omega)); have mB_ := Aside0.mk hbB; have mQ_ := Aside0.mk (Nat.le_trans HQ.out hbK.1); clear FA FW HX1 HX2 HR7 HB HQ; have FA := mFA_; have FW := mFW_; have HX1 := mHX1_; have HX2 := mHX2_; have HR7 := mHR7_; have HB := mB_; have HQ := mQ_; clear mFA_ mFW_ mHX1_ mHX2_ mHR7_ mB_ mQ_; obtain ⟨hx0, hx1, hx2, hx3, hx4, hx5⟩ := box6 FA.out.now.1; clear hbK hbB)
    go_upto_region 25 with (go_at_call 15; (with_reducible refine (laws_markIntS.calls kf (fun k_ => w6.heap.size ≤ k_ ∧ k_ < wx1.heap.size) (.slice A6_1 t1.length c6_1) t1 m0 m1 tm1 w _ HB.out HX1.out.now hm1).mono ?_); rintro e wm1 ⟨rfl, hR16, hbB, hbK⟩; clear hx0 hx1 hx2 hx3 hx4 hx5; clear HX1 hR16; have mFA_ := Aside0.mk (foot_kept FA.out hbK (fun k_ hk_ hs_ => by have g1_ : k_ < W1.heap.size := hk_; have g2_ : w6.heap.size ≤ k_ ∧ k_ < wx1.heap.size := hs_; have := HLE.out; have := HL5.out; have := H6.out; have := HZ1.out; have := HZ2.out; omega)); have mFW_ := Aside0.mk (foot_kept FW.out hbK (fun k_ hk_ hs_ => by have g1_ : k_ < w4.heap.size := hk_; have g2_ : w6.heap.size ≤ k_ ∧ k_ < wx1.heap.size := hs_; have := HLE.out; have := HL5.out; have := H6.out; have := HZ1.out; have := HZ2.out; omega)); have mHX2_ := Aside0.mk (foot_kept HX2.out hbK (fun k_ hk_ hs_ => by have g1_ : wx1.heap.size ≤ k_ ∧ k_ < wx2.heap.size := hk_; have g2_ : w6.heap.size ≤ k_ ∧ k_ < wx1.heap.size := hs_; have := HLE.out; have := HL5.out; have := H6.out; have := HZ1.out; have := HZ2.out; omega)); have mHR7_ := Aside0.mk (foot_kept HR7.out hbK (fun k_ hk_ hs_ => by have g1_ : wx2.heap.size ≤ k_ := hk_; have g2_ : w6.heap.size ≤ k_ ∧ k_ < wx1.heap.size := hs_; have := HLE.out; have := HL5.out; have := H6.out; have := HZ1.out; have := HZ2.out; omega)); have mB_ := Aside0.mk hbB; have mQ_ := Aside0.mk (Nat.le_trans HQ.out hbK.1); clear FA FW HX2 HR7 HB HQ; have FA := mFA_; have FW := mFW_; have HX2 := mHX2_; have HR7 := mHR7_; have HB := mB_; have HQ := mQ_; clear mFA_ mFW_ mHX2_ mHR7_ mB_ mQ_; obtain ⟨hx0, hx1, hx2, hx3, hx4, hx5⟩ := box6 FA.out.now.1; clear hbK hbB)
    go_upto_region 26 with (go_at_call 16; (with_reducible refine (laws_markBoolS.calls kf (fun k_ => wx1.heap.size ≤ k_ ∧ k_ < wx2.heap.size) (.slice A6_2 t2.length c6_2) t2 m1 m2 tm2 w _ HB.out HX2.out.now hm2).mono ?_); rintro e wm2 ⟨rfl, hR16, hbB, hbK⟩; clear hx0 hx1 hx2 hx3 hx4 hx5; clear HX2 hR16; have mFA_ := Aside0.mk (foot_kept FA.out hbK (fun k_ hk_ hs_ => by have g1_ : k_ < W1.heap.size := hk_; have g2_ : wx1.heap.size ≤ k_ ∧ k_ < wx2.heap.size := hs_; have := HLE.out; have := HL5.out; have := H6.out; have := HZ1.out; have := HZ2.out; omega)); have mFW_ := Aside0.mk (foot_kept FW.out hbK (fun k_ hk_ hs_ => by have g1_ : k_ < w4.heap.size := hk_; have g2_ : wx1.heap.size ≤ k_ ∧ k_ < wx2.heap.size := hs_; have := HLE.out; have := HL5.out; have := H6.out; have := HZ1.out; have := HZ2.out; omega)); have mHR7_ := Aside0.mk (foot_kept HR7.out hbK (fun k_ hk_ hs_ => by have g1_ : wx2.heap.size ≤ k_ := hk_; have g2_ : wx1.heap.size ≤ k_ ∧ k_ < wx2.heap.size := hs_; have := HLE.out; have := HL5.out; have := H6.out; have := HZ1.out; have := HZ2.out; omega)); have mB_ := Aside0.mk hbB; have mQ_ := Aside0.mk (Nat.le_trans HQ.out hbK.1); clear FA FW HR7 HB HQ; have FA := mFA_; have FW := mFW_; have HR7 := mHR7_; have HB := mB_; have HQ := mQ_; clear mFA_ mFW_ mHR7_ mB_ mQ_; obtain ⟨hx0, hx1, hx2, hx3, hx4, hx5⟩ := box6 FA.out.now.1; clear hbK hbB)
    go_upto_region 29 with (go_at_call 10; (with_reducible refine (laws_eqRouteS.calls kf A7 c7 s1 A9 c9 s1 true _ (Kd.R_reads' HR7.out.now).2.2 (Kd.R_reads' HR7.out.now).2.1 (Kd.R_reads' FW.out.now).2.2 (Kd.R_reads' FW.out.now).2.1 heb).mono ?_); rintro e w17 ⟨rfl, hb⟩; clear hx0 hx1 hx2 hx3 hx4 hx5; have mFA_ := Aside0.mk (foot_below FA.out hb); have mFW_ := Aside0.mk (foot_below FW.out hb); have mHR7_ := Aside0.mk (foot_below HR7.out hb); have mB_ := Aside0.mk (HB.out.trans (hb.mono HB.out.size)); have mQ_ := Aside0.mk (Nat.le_trans HQ.out hb.size); clear FA FW HR7 HB HQ; have FA := mFA_; have FW := mFW_; have HR7 := mHR7_; have HB := mB_; have HQ := mQ_; clear mFA_ mFW_ mHR7_ mB_ mQ_; obtain ⟨hx0, hx1, hx2, hx3, hx4, hx5⟩ := box6 FA.out.now.1; clear hb)
    go_upto_region 31 with (go_at_call 17; (with_reducible refine (laws_markRouteS.calls kf (fun k_ => wx2.heap.size ≤ k_) (.slice A7 s1.length c7) s1 1 hh G w _ HB.out HR7.out.now hmg).mono ?_); rintro e w18 ⟨rfl, hR18, hbB, hbK⟩; clear hx0 hx1 hx2 hx3 hx4 hx5; clear HR7; have mFA_ := Aside0.mk (foot_kept FA.out hbK (fun k_ hk_ hs_ => by have g1_ : k_ < W1.heap.size := hk_; have g2_ : wx2.heap.size ≤ k_ := hs_; have := HLE.out; have := HL5.out; have := H6.out; have := HZ1.out; have := HZ2.out; omega)); have mFW_ := Aside0.mk (foot_kept FW.out hbK (fun k_ hk_ hs_ => by have g1_ : k_ < w4.heap.size := hk_; have g2_ : wx2.heap.size ≤ k_ := hs_; have := HLE.out; have := HL5.out; have := H6.out; have := HZ1.out; have := HZ2.out; omega)); have mB_ := Aside0.mk hbB; have mQ_ := Aside0.mk (Nat.le_trans HQ.out hbK.1); clear FA FW HB HQ; have FA := mFA_; have FW := mFW_; have HB := mB_; have HQ := mQ_; clear mFA_ mFW_ mB_ mQ_; obtain ⟨hx0, hx1, hx2, hx3, hx4, hx5⟩ := box6 FA.out.now.1; have HR14 := Aside0.mk (foot_R (Kd.R_mono (ok' := fun _ => True) hR18 (fun _ _ => trivial))); clear hbK hbB hR18)
    go_upto_region 36 with (go_at_call 18; (with_reducible refine (held_at kf A7 c7 G s1.length hGl 1 hh _ (Kd.R_reads' HR14.out.now).2.2 (Kd.R_reads' HR14.out.now).2.1 hhb).mono ?_); rintro e w19 ⟨rfl, hd⟩; have hb := drawn_below hd; clear hd; clear hx0 hx1 hx2 hx3 hx4 hx5; have mFA_ := Aside0.mk (foot_below FA.out hb); have mFW_ := Aside0.mk (foot_below FW.out hb); have mHR14_ := Aside0.mk (foot_below HR14.out hb); have mB_ := Aside0.mk (HB.out.trans (hb.mono HB.out.size)); have mQ_ := Aside0.mk (Nat.le_trans HQ.out hb.size); clear FA FW HR14 HB HQ; have FA := mFA_; have FW := mFW_; have HR14 := mHR14_; have HB := mB_; have HQ := mQ_; clear mFA_ mFW_ mHR14_ mB_ mQ_; obtain ⟨hx0, hx1, hx2, hx3, hx4, hx5⟩ := box6 FA.out.now.1; clear hb)
    go_wp2_with (first
      | (go_at_call 6; (with_reducible refine (toNet_any (kf := kf) w.heap.size HB.out.size A0_0 c0_0 l0_0 A0_1 c0_1 l0_1 A0_2 c0_2 l0_2 A0_3 c0_3 l0_3 A0_4 c0_4 l0_4 A0_5 c0_5 l0_5 q0 q1 q2 q3 q4 q5 FA.out.now.2.1 hc0_0 FA.out.now.2.2.1 hc0_1 FA.out.now.2.2.2.1 hc0_2 FA.out.now.2.2.2.2.1 hc0_3 FA.out.now.2.2.2.2.2.1 hc0_4 FA.out.now.2.2.2.2.2.2.1 hc0_5 hto).mono ?_); rintro e w21a ⟨A20_0, c20_0, A20_1, c20_1, A20_2, c20_2, A20_3, c20_3, A20_4, c20_4, A20_5, c20_5, rfl, hN_, -, hb⟩; clear hx0 hx1 hx2 hx3 hx4 hx5; have mFA_ := Aside0.mk (foot_below FA.out hb); have mFW_ := Aside0.mk (foot_below FW.out hb); have mHR14_ := Aside0.mk (foot_below HR14.out hb); have mB_ := Aside0.mk (HB.out.trans (hb.mono HB.out.size)); have mQ_ := Aside0.mk (Nat.le_trans HQ.out hb.size); clear FA FW HR14 HB HQ; have FA := mFA_; have FW := mFW_; have HR14 := mHR14_; have HB := mB_; have HQ := mQ_; clear mFA_ mFW_ mHR14_ mB_ mQ_; obtain ⟨hx0, hx1, hx2, hx3, hx4, hx5⟩ := box6 FA.out.now.1; clear hb; have HN20 := Aside0.mk (NP.foot hN_); clear hN_)
      | (go_at_call 7; (with_reducible refine (laws_toIntS.calls kf A1 c1 l1 t1 _ FA.out.now.2.2.2.2.2.2.2.1 hc1 ht1).mono ?_); rintro e w21r1 ⟨v3, rfl, hR_, hb⟩; clear hx0 hx1 hx2 hx3 hx4 hx5; have mFA_ := Aside0.mk (foot_below FA.out hb); have mFW_ := Aside0.mk (foot_below FW.out hb); have mHR14_ := Aside0.mk (foot_below HR14.out hb); have mHN20_ := Aside0.mk (foot_below HN20.out hb); have mB_ := Aside0.mk (HB.out.trans (hb.mono HB.out.size)); have mQ_ := Aside0.mk (Nat.le_trans HQ.out hb.size); clear FA FW HR14 HN20 HB HQ; have FA := mFA_; have FW := mFW_; have HR14 := mHR14_; have HN20 := mHN20_; have HB := mB_; have HQ := mQ_; clear mFA_ mFW_ mHR14_ mHN20_ mB_ mQ_; obtain ⟨hx0, hx1, hx2, hx3, hx4, hx5⟩ := box6 FA.out.now.1; clear hb; obtain ⟨A20_r1, c20_r1, ev_⟩ := Kd.R_slice hR_; subst ev_; have HR20_1 := Aside0.mk (foot_R hR_); clear hR_)
      | (go_at_call 8; (with_reducible refine (laws_toBoolS.calls kf A2 c2 l2 t2 _ FA.out.now.2.2.2.2.2.2.2.2 hc2 ht2).mono ?_); rintro e w21r2 ⟨v3, rfl, hR_, hb⟩; clear hx0 hx1 hx2 hx3 hx4 hx5; have mFA_ := Aside0.mk (foot_below FA.out hb); have mFW_ := Aside0.mk (foot_below FW.out hb); have mHR14_ := Aside0.mk (foot_below HR14.out hb); have mHN20_ := Aside0.mk (foot_below HN20.out hb); have mHR20_1_ := Aside0.mk (foot_below HR20_1.out hb); have mB_ := Aside0.mk (HB.out.trans (hb.mono HB.out.size)); have mQ_ := Aside0.mk (Nat.le_trans HQ.out hb.size); clear FA FW HR14 HN20 HR20_1 HB HQ; have FA := mFA_; have FW := mFW_; have HR14 := mHR14_; have HN20 := mHN20_; have HR20_1 := mHR20_1_; have HB := mB_; have HQ := mQ_; clear mFA_ mFW_ mHR14_ mHN20_ mHR20_1_ mB_ mQ_; obtain ⟨hx0, hx1, hx2, hx3, hx4, hx5⟩ := box6 FA.out.now.1; clear hb; obtain ⟨A20_r2, c20_r2, ev_⟩ := Kd.R_slice hR_; subst ev_; have HR20_2 := Aside0.mk (foot_R hR_); clear hR_)
      | (go_at_call 9; (with_reducible refine (impl_Settle_any (kf := kf) HN20.out.now (Kd.R_reads' HR20_1.out.now).2.2 (Kd.R_reads' HR20_1.out.now).2.1 (Kd.R_reads' HR20_2.out.now).2.2 (Kd.R_reads' HR20_2.out.now).2.1 him).mono ?_); rintro e w22 ⟨⟨v18, rfl, hR18⟩, hb⟩; have HB3 := HB; clear HN20 HR20_1 HR20_2; clear hx0 hx1 hx2 hx3 hx4 hx5; have mFA_ := Aside0.mk (foot_below FA.out hb); have mFW_ := Aside0.mk (foot_below FW.out hb); have mHR14_ := Aside0.mk (foot_below HR14.out hb); have mB_ := Aside0.mk (HB.out.trans (hb.mono HB.out.size)); have mQ_ := Aside0.mk (Nat.le_trans HQ.out hb.size); clear FA FW HR14 HB HQ; have FA := mFA_; have FW := mFW_; have HR14 := mHR14_; have HB := mB_; have HQ := mQ_; clear mFA_ mFW_ mHR14_ mB_ mQ_; obtain ⟨hx0, hx1, hx2, hx3, hx4, hx5⟩ := box6 FA.out.now.1; clear hb; obtain ⟨A18, c18, ev_, hl18, hC18⟩ := Kd.R_reads hR18; clear hR18; subst ev_)
      | (go_at_call 10; (with_reducible refine (laws_eqRouteS.calls kf A18 c18 s1 A9 c9 s1 true _ hC18 hl18 (Kd.R_reads' FW.out.now).2.2 (Kd.R_reads' FW.out.now).2.1 heb).mono ?_); rintro e w23 ⟨rfl, hb⟩; clear hC18 hl18; clear hx0 hx1 hx2 hx3 hx4 hx5; have mFA_ := Aside0.mk (foot_below FA.out hb); have mFW_ := Aside0.mk (foot_below FW.out hb); have mHR14_ := Aside0.mk (foot_below HR14.out hb); have mB_ := Aside0.mk (HB.out.trans (hb.mono HB.out.size)); have mQ_ := Aside0.mk (Nat.le_trans HQ.out hb.size); clear FA FW HR14 HB HQ; have FA := mFA_; have FW := mFW_; have HR14 := mHR14_; have HB := mB_; have HQ := mQ_; clear mFA_ mFW_ mHR14_ mB_ mQ_; obtain ⟨hx0, hx1, hx2, hx3, hx4, hx5⟩ := box6 FA.out.now.1; clear hb)
      | (go_at_call 18; (with_reducible refine (held_at kf A7 c7 G s1.length hGl 1 hh _ (Kd.R_reads' HR14.out.now).2.2 (Kd.R_reads' HR14.out.now).2.1 hhb).mono ?_); rintro e w24 ⟨rfl, hd⟩; have hb := drawn_below hd; clear hd; clear hx0 hx1 hx2 hx3 hx4 hx5; have mFA_ := Aside0.mk (foot_below FA.out hb); have mFW_ := Aside0.mk (foot_below FW.out hb); have mHR14_ := Aside0.mk (foot_below HR14.out hb); have mB_ := Aside0.mk (HB.out.trans (hb.mono HB.out.size)); have mQ_ := Aside0.mk (Nat.le_trans HQ.out hb.size); clear FA FW HR14 HB HQ; have FA := mFA_; have FW := mFW_; have HR14 := mHR14_; have HB := mB_; have HQ := mQ_; clear mFA_ mFW_ mHR14_ mB_ mQ_; obtain ⟨hx0, hx1, hx2, hx3, hx4, hx5⟩ := box6 FA.out.now.1; clear hb))
    go_ret
    exact ⟨rfl, HB.out⟩
  · rw [if_neg hc] at h
    cases h
end Go.Proofs.YtgibacfgjmdjdaaGreat.PFnExactIsStable
end
