/- FnExactNetText: words for the regions that draw their order. Conditions: the form's own reach alone. -/
import Derived.Test.YtgibacfgjmdjdaaDoorND
import Derived.Test.YtgibacfgjmdjdaaDoorDB3
namespace Go.Proofs.YtgibacfgjmdjdaaDoor.PFnExactIsStable
open Go.RowKit Go.Proofs.YtgibacfgjmdjdaaDoorW.PrintWords Go.Proofs.YtgibacfgjmdjdaaDoorW.PrintLast Go.Proofs.YtgibacfgjmdjdaaDoorW.PrintMore
attribute [local go_sem] max2_int min2_int max_two min_two max_three min_three max_four min_four   -- for this text's walks alone
set_option linter.unusedVariables false
set_option linter.unusedSimpArgs false
set_option maxHeartbeats 8000000
set_option maxRecDepth 100000
theorem litS {P : Program} {ops : Array Oper} {rest : List Oper} {o : Oper} {a : Act} {Q : Exit → Act → World → Prop} {w W : World} {n : Nat} (cs : Array Value) (HB : Aside0 (Below w.heap.size w W))
  (hrun : (execOp a.eval o).run P W = .ok (.value (.slice (some ⟨W.heap.size, 0, none⟩) n n)) (W.alloc (.cells cs 9 (0, 0))))
  (h : ∀ g w1, Aside0 (w1.heap[g]? = some (.cells cs 9 (0, 0))) → Below W.heap.size W w1 → Aside0 (Below w.heap.size w w1) → wpList P ops Q rest (a.put o.dst (.slice (some ⟨g, 0, none⟩) n n)) w1) (hgd : o.guard = none := by exact rfl) : wpList P ops Q (o :: rest) a W :=
 Kd.event_run hgd hrun (h _ _ ⟨blk_new W _⟩ (below_alloc (Below.refl _ _) _) ⟨below_step HB.out (below_alloc (Below.refl _ _) _)⟩)
theorem cellS {w : World} {g : Nat} {cs : Array Value} {xs : List (List UInt8)} (hb : w.heap[g]? = some (.cells cs 9 (0, 0))) (he : (xs.map fun x => Value.string (sB x)).toArray = cs) : ∀ (j : Nat) x, xs[j]? = some x → w.cell? ⟨g, j, none⟩ = some (.string (sB x)) := by
 intro j x h
 rw [blk_cell hb j, ← he]
 simp [h]
theorem sflat_le {α : Type} (f : α → List UInt8) (l : List α) (k : Nat) (hn : l.length ≤ 1000) (h : ∀ x ∈ l, (f x).length ≤ 3100) : ((l.take k).flatMap f).length ≤ 3100000 := by
 have := flat_le f 3100 (l.take k) (fun x hx => h x (List.mem_of_mem_take hx))
 rw [List.length_take] at this
 have h2 : min k l.length ≤ 1000 := by omega
 have h3 := Nat.mul_le_mul_left 3100 h2
 omega
theorem putT {T : List UInt8} {α : Type} {f : α → List UInt8} {l : List α} {k : Nat} {x : α} {xs : List (List UInt8)} (hx : l[k]? = some x) (hf : f x = lineT xs) : T ++ (l.take k).flatMap f ++ lineT xs = T ++ (l.take (k + 1)).flatMap f := by
 rw [flat_snoc f l k x hx, hf, List.append_assoc]
theorem rL_le {x : ByteArray} (h : x.size ≤ 1000) : Lib.lens [[114, 111, 117, 116, 101, 114], x.data.toList] ≤ 3000 := by
 rw [ln2, data_len]
 have : ([114, 111, 117, 116, 101, 114] : List UInt8).length = 6 := rfl
 omega
theorem lL_le {l0 : List ByteArray} (h : ∀ x ∈ l0, x.size ≤ 1000) {x : S92} (hs : smallI x.f2) : Lib.lens [[108, 105, 110, 107], nm l0 x.f0, nm l0 x.f1, [99, 111, 115, 116], Lib.itoa x.f2] ≤ 3000 := by
 have h1 := nm_le h x.f0
 have h2 := nm_le h x.f1
 have h3 := itoa_le hs
 rw [ln5]
 simp only [List.length_cons, List.length_nil]
 omega
theorem oL_le {l0 : List ByteArray} (h : ∀ x ∈ l0, x.size ≤ 1000) (x : Int) : Lib.lens [[111, 114, 105, 103, 105, 110], nm l0 x] ≤ 3000 := by
 have h1 := nm_le h x
 rw [ln2]
 simp only [List.length_cons, List.length_nil]
 omega
theorem eL_le {l0 : List ByteArray} (h : ∀ x ∈ l0, x.size ≤ 1000) (x : Int) : Lib.lens [[101, 120, 116, 101, 114, 110, 97, 108], nm l0 x] ≤ 3000 := by
 have h1 := nm_le h x
 rw [ln2]
 simp only [List.length_cons, List.length_nil]
 omega
theorem iL_le {l0 : List ByteArray} (h : ∀ x ∈ l0, x.size ≤ 1000) {x : S95} (hs : smallI x.f4) : Lib.lens [[105, 109, 112, 111, 114, 116], nm l0 x.f0, [102, 114, 111, 109], nm l0 x.f1 ++ whenT x.f2 ++ doT x.f3 x.f4] ≤ 3000 := by
 have h1 := nm_le h x.f0
 have h2 := nm_le h x.f1
 have h3 := when_le x.f2
 have h4 := do_le (d := x.f3) hs
 rw [ln4]
 simp only [List.length_cons, List.length_nil, List.length_append]
 omega
theorem fL_le {l0 : List ByteArray} (h : ∀ x ∈ l0, x.size ≤ 1000) {x : S97} (hs : smallI x.f2) (ht : smallI x.f3) : Lib.lens [[102, 105, 108, 116, 101, 114], nm l0 x.f0, [116, 111], nm l0 x.f1, [112, 111, 114, 116], Lib.itoa x.f2, Lib.itoa x.f3] ≤ 3000 := by
 have h1 := nm_le h x.f0
 have h2 := nm_le h x.f1
 have h3 := itoa_le hs
 have h4 := itoa_le ht
 rw [ln7]
 simp only [List.length_cons, List.length_nil]
 omega
theorem put2 (B b n : Nat) (T : List UInt8) (xs : List (List UInt8)) (cs : Array Value) (w : World) (he : (xs.map fun x => Value.string (sB x)).toArray = cs) (hn : xs.length = n) (hB : Lib.IsBuilder 86 5 B b (Lib.byteCells T) w) (hBw : B ≤ w.heap.size) (hT : T.length ≤ 100000000) (h2 : 2 ≤ n) (h7 : n ≤ 7) (hl : Lib.lens xs ≤ 3000) :
  Calls Tryd.prog 48 #[.slice (some ⟨w.heap.size, 0, none⟩) n n, .pointer (some ⟨b, 0, none⟩)] (w.alloc (.cells cs 9 (0, 0))) fun e w' => e = .returned (.tuple #[]) ∧ Lib.IsBuilder 86 5 B b (Lib.byteCells (T ++ lineT xs)) w' ∧ Below B w w' ∧ Lib.OthersKept 5 (some b) w w' := by
 subst hn
 have hb := below_alloc (Below.refl w.heap.size w) (.cells cs 9 (0, 0))
 have hg := blk_new w (.cells cs 9 (0, 0))
 refine (put_calls B b w.heap.size xs.length T xs _ (build_below hB hb) (Nat.le_trans hBw hb.size) hT (cellS hg he) (blk_lt hg) h2 h7 (Nat.le_trans hl (by decide)) (Nat.le_refl _)).mono ?_
 rintro e w' ⟨rfl, h1, h3, h4⟩
 exact ⟨rfl, h1, (hb.mono hBw).trans h3, (others_below hb).trans h4⟩
section
variable {P : Program} {ops : Array Oper} {Q : Exit → Act → World → Prop} {o : Oper} {b : Act} {W : World} {K : Act → World → Prop} {s s1 s2 s3 : Tmp}
theorem gn_ {p : Value → World → Prop} {u : Value} (hK : ∀ v W', p v W' → Below W.heap.size W W' → K (b.put o.dst v) W') (hr : (execOp b.eval o).run P W = .ok (.value u) W) (hp : p u W := by exact rfl) (hg : o.guard = none := by exact rfl) :
  if Region.wanted o (yielded ops b.tmps) = true then Oper.wp P o b W K Q else K (b.put o.dst undef) W := gd_step (C := true) (wn_ hg) (fun _ => hr) (hK _ W hp (Below.refl _ _))
theorem x_ixs {ad : Addr} {n c : Nat} {t : Int} (ho : o.op = .indexAddr 22 (.tmp s) (.tmp s2)) (h : b.eval (.tmp s) = .slice (some ad) n c) (h2 : b.eval (.tmp s2) = .int .i64 t) (h0 : 0 ≤ t) (h1 : t < (n : Int)) (hn : n ≤ 9223372036854775807) : (execOp b.eval o).run Tryd.prog W = .ok (.value (.pointer (some (ad.add t.toNat)))) W := by
 have hu22 := Tryd.underlying22
 unfold execOp
 rw [ho]
 simp only [h, h2]
 go_simp
theorem lit_step {n k : Nat} {cs : Array Value} {B : Nat → Prop} (hg : o.guard = none) (hn : n ≤ W.heap.size) (hrun : (execOp b.eval o).run P W = .ok (.value (.slice (some ⟨W.heap.size, 0, none⟩) k k)) (W.alloc (.cells cs 9 (0, 0))))
  (hK : ∀ v W', (∃ g, v = .slice (some ⟨g, 0, none⟩) k k ∧ n ≤ g ∧ (B g ∨ g = W.heap.size) ∧ W'.heap[g]? = some (.cells cs 9 (0, 0))) → Below W.heap.size W W' → W.heap.size < W'.heap.size → K (b.put o.dst v) W') :
  if Region.wanted o (yielded ops b.tmps) = true then Oper.wp P o b W K Q else K (b.put o.dst undef) W := by
 have hnew := blk_new W (.cells cs 9 (0, 0))
 exact value_ (by unfold Region.wanted; rw [hg]) rfl hrun (hK _ _ ⟨_, rfl, hn, .inr rfl, hnew⟩ (below_alloc (Below.refl _ _) _) (blk_lt hnew))
theorem x_adds {x y z : ByteArray} {p q : Operand} (ho : o.op = .binOp .add 9 p q 9) (h1 : b.eval p = .string x) (h2 : b.eval q = .string y) (hz : x ++ y = z) (hl : x.size + y.size ≤ 9223372036854775807) : (execOp b.eval o).run Tryd.prog W = .ok (.value (.string z)) W := by
  have hu9 := Tryd.underlying9
  subst hz
  unfold execOp
  rw [ho]
  simp only [h1, h2]
  go_simp
theorem x_ix93 {t : Int} (ho : o.op = .indexAddr 93 (.global 0) (.tmp s2)) (h : b.eval (.global 0) = .pointer (some ⟨0, 0, none⟩)) (h2 : b.eval (.tmp s2) = .int .i64 t) (h0 : 0 ≤ t) (h1 : t < 3) : (execOp b.eval o).run Tryd.prog W = .ok (.value (.pointer (some ⟨0, t.toNat, none⟩))) W := by
 have hu93 := Tryd.underlying93
 unfold execOp
 rw [ho]
 simp only [h, h2]
 go_simp
theorem x_ld65 {g : Nat} {v0 v1 v2 v3 v4 : Value} (ho : o.op = .load 65 (.tmp s)) (h : b.eval (.tmp s) = .pointer (some ⟨g, 0, none⟩)) (hc : W.heap[g]? = some (.cells #[v0, v1, v2, v3, v4] 65 (0, 0))) : (execOp b.eval o).run Tryd.prog W = .ok (.value (.agg #[v0, v1, v2, v3, v4])) W := by
 have hu95 := Tryd.underlying65
 obtain ⟨c0, c1, c2, c3, c4⟩ := swc5 hc
 replace h := tm_eval h
 unfold execOp
 rw [ho]
 go_simp
end
def VP.lit (n k : Nat) (cs : Array Value) : VP := ⟨fun B W v => ∃ g, v = .slice (some ⟨g, 0, none⟩) k k ∧ n ≤ g ∧ B g ∧ W.heap[g]? = some (.cells cs 9 (0, 0)), fun B B' W W' v hb h1 _ h => by
 obtain ⟨g, e, hn, hB, hg⟩ := h
 exact ⟨g, e, hn, h1 g hB, blk_below hg hb⟩⟩
theorem when_cell {w : World} (h : WT w) (d : Int) (h0 : 0 ≤ d) (h1 : d < 3) : w.cell? ⟨0, d.toNat, none⟩ = some (.string (sB (whenT d))) := by
 have : d = 0 ∨ d = 1 ∨ d = 2 := by omega
 rcases this with rfl | rfl | rfl
 · exact h.1
 · exact h.2.1
 · exact h.2.2
theorem sub_less {a k g : Nat} (h : k < a) (hg : a - k ≤ g) : a - (k + 1) < g := by omega
end Go.Proofs.YtgibacfgjmdjdaaDoor.PFnExactIsStable
