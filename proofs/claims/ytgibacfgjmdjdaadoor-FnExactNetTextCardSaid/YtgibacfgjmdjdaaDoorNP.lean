/- FnExactNetText: for every input the law returns true. Conditions: the form's own reach alone. -/
import Derived.Test.YtgibacfgjmdjdaaDoorNL
import Derived.Deep.Slices
import Derived.ChangeArms
import Derived.SizedLaws
import Derived.Test.YtgibacfgjmdjdaaDoorRows
import Derived.WalkKit
import Derived.ProofKit
import Derived.OpenShut
import Derived.ShutString
import Derived.ChangeOld
import Derived.Below
section
set_option linter.unusedVariables false
set_option linter.unusedSimpArgs false
namespace Go.Proofs.YtgibacfgjmdjdaaDoor.Reads
open Go.RowKit Go.ChangeShapes Go.WideShapes Go.Deep Go.Proofs.YtgibacfgjmdjdaaDoorW.PrintWords
def ReadsN (P : Program) (n : Nat) (t : TypeId) {α : Type} (d : Kd α) (wf : α → Prop) : Prop :=
 ∀ (H : Type) (enc : TypeId × Value → H) (w : World) (base : Nat) (spare : Nat → Bool) (held : Bool) (cs : List Value) (x : DataW H × List MemPlace),
  DataW.trod enc P w base spare held n t cs = some x → (x.1.weights P t).all (· ≤ reachBytes) = true → ∃ a : α, d.K w a cs ∧ wf a
def Reads (P : Program) (t : TypeId) {α : Type} (d : Kd α) (wf : α → Prop) : Prop := ∀ n, ReadsN P n t d wf
theorem wf_i64 {z : Int} (h : (Lit.int .i64 z).wf = true) : -9223372036854775808 ≤ z ∧ z ≤ 9223372036854775807 := by
 simp only [Lit.wf, Bool.and_eq_true, decide_eq_true_eq] at h
 exact h
def WFI (z : Int) : Prop := -9223372036854775808 ≤ z ∧ z ≤ 9223372036854775807
def WFS (s : ByteArray) : Prop := s.size ≤ 140737488351232
def WFL {α : Type} (b : Nat) (wf : α → Prop) (l : List α) : Prop := l.length * b ≤ 140737488351232 ∧ ∀ x ∈ l, wf x
theorem int {P : Program} {n : Nat} {t : TypeId} (ht : P.underlying t = some (.int .i64)) : ReadsN P n t (Kd.int .i64) WFI := by
 intro H enc w base spare held cs x h _
 obtain ⟨z, rfl, rfl, hw⟩ := DataW.trod_int ht h
 exact ⟨z, rfl, wf_i64 hw⟩
theorem bool {P : Program} {n : Nat} {t : TypeId} (ht : P.underlying t = some .bool) : ReadsN P n t Kd.bool (fun _ => True) := by
 intro H enc w base spare held cs x h _
 obtain ⟨z, rfl, rfl⟩ := DataW.trod_bool ht h
 exact ⟨z, rfl, trivial⟩
theorem string {P : Program} {n : Nat} {t : TypeId} (ht : P.underlying t = some .string) : ReadsN P n t Kd.string WFS := by
 intro H enc w base spare held cs x h hr
 obtain ⟨z, rfl, rfl, _⟩ := DataW.trod_string ht h
 refine ⟨z, rfl, ?_⟩
 simp [DataW.weights, reachBytes] at hr
 exact (show z.size ≤ 140737488351232 from of_decide_eq_true hr)
theorem all_of {H : Type} {P : Program} {e : TypeId} : ∀ {l : List (DataW H)}, (DataW.weightsAll P e l).all (· ≤ reachBytes) = true → ∀ d ∈ l, (d.weights P e).all (· ≤ reachBytes) = true
 | [], _, d, hd => by cases hd
 | y :: r, h, d, hd => by
  simp only [DataW.weightsAll, List.all_append, Bool.and_eq_true] at h
  rcases List.mem_cons.1 hd with rfl | hd
  ·exact h.1
  ·exact all_of h.2 d hd
theorem slice {P : Program} {n : Nat} {t e : TypeId} {α : Type} {d : Kd α} {wf : α → Prop} {b : Nat} (ht : P.underlying t = some (.slice e)) (hc : P.cellsOf e = d.sz) (hb : P.bytesOf e = b) (he : ∀ m, m < n → ReadsN P m e d wf) :
  ReadsN P n t (Kd.slice e d) (WFL b wf) := by
 intro H enc w base spare held cs x h hr
 cases n with
 | zero => simp [DataW.trod] at h
 | succ n =>
  have h' := h
  simp only [DataW.trod, ht] at h'
  match cs, h' with
  | [.slice none 0 0], h' =>
   refine ⟨[], ⟨none, 0, rfl, Nat.le_refl _, rfl, by simp, fun h => absurd h (Nat.lt_irrefl 0)⟩, by simp, fun x hx => by cases hx⟩
  | [.slice (some a) len cap], h' =>
   simp only at h'
   split at h'
   ·rename_i hcond
    obtain ⟨elems, hel, h2⟩ := Option.bind_eq_some_iff.1 h'
    obtain ⟨rest, hrest, rfl⟩ := Option.map_eq_some_iff.1 h2
    simp only [DataW.weights, ht, List.all_cons, List.all_append, Bool.and_eq_true, hb, List.length_map, decide_eq_true_eq] at hr
    have hlen : elems.length = len := by simpa using mapM_some_length hel
    have hget : ∀ i, i < len → ∃ y : α, wf y ∧ ∃ c, c.length = d.sz ∧ d.K w y c ∧ ∀ j u, c[j]? = some u → w.cell? (a.add (i * d.sz + j)) = some u := by
     intro i hi
     have h3 := mapM_some_get hel i i (by simp [hi])
     rw [List.getElem?_eq_getElem (by omega)] at h3
     obtain ⟨cs', hcs, htr⟩ := Option.bind_eq_some_iff.1 h3
     obtain ⟨y, hK, hw⟩ := he n (Nat.lt_succ_self n) H enc w base spare held cs' _ htr (all_of hr.2.1 _ (List.mem_map.2 ⟨elems[i]'(by omega), List.getElem_mem _, rfl⟩))
     obtain ⟨_, hcl, hat⟩ := World.cells?_some hcs
     rw [hc] at hcl hat
     refine ⟨y, hw, cs', hcl, hK, fun j u hj => ?_⟩
     have hjl : j < d.sz := by
      rw [← hcl]
      exact (List.getElem?_eq_some_iff.1 hj).1
     rw [← Deep.add_add, hat j hjl, hj]
    rcases Nat.eq_zero_or_pos len with hz | hz
    ·subst hz
     refine ⟨[], ⟨some a, cap, rfl, Nat.zero_le _, rfl, by simp, fun h => absurd h (Nat.lt_irrefl 0)⟩, by simp, fun x hx => by cases hx⟩
    have hinh : Inhabited α := ⟨(hget 0 hz).choose⟩
    obtain ⟨f, hf⟩ := choose_lt hget
    refine ⟨(List.range len).map f, ⟨some a, cap, ?_, ?_, ?_, ?_, ?_⟩, ?_, ?_⟩
    ·simp
    ·simpa using hcond.2.1
    ·simp
    ·have := hcond.2.2
     have := hcond.2.1
     simp [maxLen] at *
     omega
    ·intro _
     refine ⟨a, rfl, fun j p hj => ?_⟩
     have hjl : j < len := by
      have := (List.getElem?_eq_some_iff.1 hj).1
      simpa using this
     simp [hjl] at hj
     subst hj
     obtain ⟨_, c, h1, h2, h3⟩ := hf j hjl
     exact ⟨c, h1, h2, h3⟩
    ·have h4 := hr.1
     simp only [reachBytes] at h4
     have : len * b ≤ (elems.length + rest.length) * b := Nat.mul_le_mul_right _ (by omega)
     simp
     omega
    ·intro y hy
     obtain ⟨i, hi, rfl⟩ := List.mem_map.1 hy
     exact (hf i (by simpa using hi)).1
   ·cases h'
theorem intR {P : Program} {t : TypeId} (ht : P.underlying t = some (.int .i64)) : Reads P t (Kd.int .i64) WFI := fun _ => int ht
theorem boolR {P : Program} {t : TypeId} (ht : P.underlying t = some .bool) : Reads P t Kd.bool (fun _ => True) := fun _ => bool ht
theorem stringR {P : Program} {t : TypeId} (ht : P.underlying t = some .string) : Reads P t Kd.string WFS := fun _ => string ht
theorem sliceR {P : Program} {t e : TypeId} {α : Type} {d : Kd α} {wf : α → Prop} {b : Nat} (ht : P.underlying t = some (.slice e)) (hc : P.cellsOf e = d.sz) (hb : P.bytesOf e = b) (he : Reads P e d wf) : Reads P t (Kd.slice e d) (WFL b wf) :=
 fun _ => slice ht hc hb (fun m _ => he m)
def FieldsN (P : Program) (n : Nat) (fs : List Field) (off : Nat) {α : Type} (d : Kd α) (wf : α → Prop) : Prop :=
 ∀ (H : Type) (enc : TypeId × Value → H) (w : World) (base : Nat) (spare : Nat → Bool) (held : Bool) (cs : List Value) (xs : List (DataW H × List MemPlace)),
  (fs.mapM fun f => DataW.trod enc P w base spare held n f.type ((cs.drop f.offset).take (P.cellsOf f.type))) = some xs →
  (DataW.weightsEach P (fs.map (·.type)) (xs.map (·.1))).all (· ≤ reachBytes) = true → cs.length = off + d.sz → ∃ a : α, d.K w a (cs.drop off) ∧ wf a
theorem last {P : Program} {n : Nat} {f : Field} {off : Nat} {α : Type} {d : Kd α} {wf : α → Prop} (ho : f.offset = off) (hc : P.cellsOf f.type = d.sz) (h : ReadsN P n f.type d wf) : FieldsN P n [f] off d wf := by
 intro H enc w base spare held cs xs hm hr hl
 simp only [List.mapM_cons, List.mapM_nil, Option.bind_eq_bind, Option.bind_eq_some_iff, Option.pure_def, Option.some.injEq] at hm
 obtain ⟨y, hy, _, rfl, rfl⟩ := hm
 rw [ho, hc, List.take_of_length_le (by rw [List.length_drop]; omega)] at hy
 simp only [List.map_cons, List.map_nil, DataW.weightsEach, List.append_nil] at hr
 exact h H enc w base spare held _ _ hy hr
theorem more {P : Program} {n : Nat} {f : Field} {fs : List Field} {off : Nat} {α β : Type} {d : Kd α} {d' : Kd β} {wf : α → Prop} {wf' : β → Prop} (ho : f.offset = off) (hc : P.cellsOf f.type = d.sz)
  (h : ReadsN P n f.type d wf) (h' : FieldsN P n fs (off + d.sz) d' wf') : FieldsN P n (f :: fs) off (Kd.pair d d') (fun x => wf x.1 ∧ wf' x.2) := by
 intro H enc w base spare held cs xs hm hr hl
 simp only [List.mapM_cons, Option.bind_eq_bind, Option.bind_eq_some_iff, Option.pure_def, Option.some.injEq] at hm
 obtain ⟨y, hy, ys, hys, rfl⟩ := hm
 simp only [List.map_cons, DataW.weightsEach, List.all_append, Bool.and_eq_true] at hr
 have hl' : cs.length = off + (d.sz + d'.sz) := hl
 rw [ho, hc] at hy
 obtain ⟨a, hK, hw⟩ := h H enc w base spare held _ _ hy hr.1
 obtain ⟨b, hK', hw'⟩ := h' H enc w base spare held cs ys hys hr.2 (by omega)
 refine ⟨(a, b), ⟨_, _, ?_, hK, hK'⟩, hw, hw'⟩
 have := (List.take_append_drop d.sz (cs.drop off)).symm
 rwa [List.drop_drop] at this
theorem struct {P : Program} {n : Nat} {t : TypeId} {fs : Array Field} {α β : Type} {d : Kd α} {wf : α → Prop} (f : β → α) (g : α → β) (hfg : ∀ a, f (g a) = a) (ht : P.underlying t = some (.struct fs)) (hc : P.cellsOf t = d.sz)
  (h : ∀ m, m < n → FieldsN P m fs.toList 0 d wf) : ReadsN P n t (Kd.iso d f) (fun x => wf (f x)) := by
 intro H enc w base spare held cs x hx hr
 cases n with
 | zero => simp [DataW.trod] at hx
 | succ n =>
  simp only [DataW.trod, ht] at hx
  have hx' : cs.length = P.cellsOf t ∧ ∃ xs, (fs.toList.mapM fun f => DataW.trod enc P w base spare held n f.type ((cs.drop f.offset).take (P.cellsOf f.type))) = some xs ∧ (.agg (xs.map (·.1)), xs.flatMap (·.2)) = x := by
   split at hx <;> simp_all
  obtain ⟨hl, xs, hm, rfl⟩ := hx'
  simp only [DataW.weights, ht] at hr
  obtain ⟨a, hK, hw⟩ := h n (Nat.lt_succ_self n) H enc w base spare held cs xs hm hr (by rw [hl, hc]; omega)
  rw [List.drop_zero] at hK
  exact ⟨g a, by show d.K w (f (g a)) cs; rw [hfg]; exact hK, by show wf (f (g a)); rw [hfg]; exact hw⟩
theorem each_of {H : Type} {P : Program} : ∀ {ts : List TypeId} {ds : List (DataW H)} {j : Nat} {t : TypeId} {d : DataW H}, (DataW.weightsEach P ts ds).all (· ≤ reachBytes) = true → ts[j]? = some t → ds[j]? = some d → (d.weights P t).all (· ≤ reachBytes) = true
 | [], _, _, _, _, _, h, _ => by simp at h
 | _ :: _, [], _, _, _, _, _, h => by simp at h
 | t0 :: ts, d0 :: ds, 0, t, d, h, ht, hd => by
  simp only [List.getElem?_cons_zero, Option.some.injEq] at ht hd
  subst ht hd
  simp only [DataW.weightsEach, List.all_append, Bool.and_eq_true] at h
  exact h.1
 | t0 :: ts, d0 :: ds, j + 1, t, d, h, ht, hd => by
  simp only [DataW.weightsEach, List.all_append, Bool.and_eq_true] at h
  exact each_of (j := j) h.2 (by simpa using ht) (by simpa using hd)
theorem arg {H : Type} {enc : TypeId × Value → H} {P : Program} {W : World} {base : Nat} {spare : Nat → Bool} {held : Bool} {t : TypeId} {v : Value} {d : DataW H} {ps : List MemPlace} {ts : List TypeId} {ds : List (DataW H)} {j : Nat} {α : Type} {k : Kd α} {wf : α → Prop}
  (hk : Reads P t k wf) (hsz : (DataW.weightsEach P ts ds).all (· ≤ reachBytes) = true) (ht : ts[j]? = some t) (hd : ds[j]? = some d) (h : DataW.Trod enc P W base spare held t v d ps) : ∃ a : α, k.K W a v.cells.toList ∧ wf a := by
 obtain ⟨fuel, hf⟩ := h
 exact hk fuel H enc W base spare held _ _ hf (each_of hsz ht hd)
end Go.Proofs.YtgibacfgjmdjdaaDoor.Reads
end
section
set_option linter.unusedVariables false
namespace Go.Proofs.YtgibacfgjmdjdaaDoor.PFnExactIsStable
open Go.RowKit Go.Proofs.YtgibacfgjmdjdaaDoorW.PrintWords Go.Proofs.YtgibacfgjmdjdaaDoorW.PrintLast Go.Proofs.YtgibacfgjmdjdaaDoor
def wf107 (x : S107) : Prop := Reads.WFI x.f0 ∧ (Reads.WFI x.f1 ∧ (Reads.WFI x.f2))
def wf109 (x : S109) : Prop := Reads.WFI x.f0 ∧ (Reads.WFI x.f1 ∧ (Reads.WFI x.f2 ∧ (Reads.WFI x.f3 ∧ (Reads.WFI x.f4))))
def wf111 (x : S111) : Prop := Reads.WFI x.f0 ∧ (Reads.WFI x.f1 ∧ (Reads.WFI x.f2 ∧ (Reads.WFI x.f3)))
def laws_FnExactNetText.Pure : Prop := ∀ (l0_0 : List ByteArray) (l0_1 : List (S107)) (l0_2 : List Int) (l0_3 : List Int) (l0_4 : List (S109)) (l0_5 : List (S111)), (Reads.WFL 16 Reads.WFS) l0_0 → (Reads.WFL 24 wf107) l0_1 → (Reads.WFL 8 Reads.WFI) l0_2 → (Reads.WFL 8 Reads.WFI) l0_3 → (Reads.WFL 40 wf109) l0_4 → (Reads.WFL 32 wf111) l0_5 → ∃ k, laws_FnExactNetText.f k l0_0 l0_1 l0_2 l0_3 l0_4 l0_5 = some true ∧ ∀ q0 q1 q2 q3 q4 q5, laws_toNet.f k l0_0 l0_1 l0_2 l0_3 l0_4 l0_5 = some (q0, q1, q2, q3, q4, q5) → spec_NetOK.f k q0 q1 q2 q3 q4 q5 = some true → NetFit q0 q1 q2 q3 q4 q5
theorem rk107 : Reads.Reads Tryd.prog 70 k107 wf107 := fun _ => Reads.struct (fun x : S107 => (x.f0, x.f1, x.f2)) (fun p => ⟨p.1, p.2.1, p.2.2⟩) (fun _ => rfl) Tryd.underlying70 (by kernel_rfl) (fun m _ => (Reads.more rfl (by kernel_rfl) ((Reads.intR Tryd.underlying3) m) (Reads.more rfl (by kernel_rfl) ((Reads.intR Tryd.underlying3) m) (Reads.last rfl (by kernel_rfl) ((Reads.intR Tryd.underlying3) m)))))
theorem rk109 : Reads.Reads Tryd.prog 72 k109 wf109 := fun _ => Reads.struct (fun x : S109 => (x.f0, x.f1, x.f2, x.f3, x.f4)) (fun p => ⟨p.1, p.2.1, p.2.2.1, p.2.2.2.1, p.2.2.2.2⟩) (fun _ => rfl) Tryd.underlying72 (by kernel_rfl) (fun m _ => (Reads.more rfl (by kernel_rfl) ((Reads.intR Tryd.underlying3) m) (Reads.more rfl (by kernel_rfl) ((Reads.intR Tryd.underlying3) m) (Reads.more rfl (by kernel_rfl) ((Reads.intR Tryd.underlying3) m) (Reads.more rfl (by kernel_rfl) ((Reads.intR Tryd.underlying3) m) (Reads.last rfl (by kernel_rfl) ((Reads.intR Tryd.underlying3) m)))))))
theorem rk111 : Reads.Reads Tryd.prog 74 k111 wf111 := fun _ => Reads.struct (fun x : S111 => (x.f0, x.f1, x.f2, x.f3)) (fun p => ⟨p.1, p.2.1, p.2.2.1, p.2.2.2⟩) (fun _ => rfl) Tryd.underlying74 (by kernel_rfl) (fun m _ => (Reads.more rfl (by kernel_rfl) ((Reads.intR Tryd.underlying3) m) (Reads.more rfl (by kernel_rfl) ((Reads.intR Tryd.underlying3) m) (Reads.more rfl (by kernel_rfl) ((Reads.intR Tryd.underlying3) m) (Reads.last rfl (by kernel_rfl) ((Reads.intR Tryd.underlying3) m))))))
end Go.Proofs.YtgibacfgjmdjdaaDoor.PFnExactIsStable
end
section
set_option linter.unusedVariables false
set_option linter.unusedSimpArgs false
namespace Go.Proofs.YtgibacfgjmdjdaaDoor.Plain
open Go.RowKit Go.Proofs.YtgibacfgjmdjdaaDoorW.PrintWords
section
variable {α β : Type}
theorem ifp {c : Prop} [Decidable c] {f g : Nat → Option α} {r : α} (h : c) (k : Ev f r) : Ev (fun n => if c then f n else g n) r := by
 obtain ⟨K, hK⟩ := k
 exact ⟨K, fun n hn => by simp only [if_pos h]; exact hK n hn⟩
theorem ifn {c : Prop} [Decidable c] {f g : Nat → Option α} {r : α} (h : ¬ c) (k : Ev g r) : Ev (fun n => if c then f n else g n) r := by
 obtain ⟨K, hK⟩ := k
 exact ⟨K, fun n hn => by simp only [if_neg h]; exact hK n hn⟩
theorem bnd {g : Nat → Option α} {f : Nat → α → Option β} {a : α} {r : β} (h : Ev g a) (k : Ev (fun n => f n a) r) : Ev (fun n => (g n).bind (f n)) r := Ev.bind h k
theorem bnd0 {g : Option α} {f : Nat → α → Option β} {a : α} {r : β} (h : g = some a) (k : Ev (fun n => f n a) r) : Ev (fun n => g.bind (f n)) r := by
 obtain ⟨K, hK⟩ := k
 exact ⟨K, fun n hn => by rw [h]; exact hK n hn⟩
theorem stp {g f : Nat → Option α} {r : α} (h : ∀ k, g (k + 1) = f k) (k : Ev f r) : Ev g r := Ev.step h k
theorem evc {g f : Nat → Option α} {r : α} (h : ∀ k, g k = f k) (k : Ev f r) : Ev g r := Ev.congr h k
theorem sm (r : α) : Ev (fun _ => some r) r := Ev.now r
theorem one {g : Option α} {r : α} (h : g = some r) : Ev (fun _ => g) r := ⟨0, fun _ _ => h⟩
end
theorem up {i n : Int} (h0 : 0 ≤ i) (h : i < n) (hn : n ≤ 9223372036854775807) : wrap64 (i + 1) = i + 1 := by
 unfold wrap64
 omega
theorem w64 {x : Int} (h0 : -9223372036854775808 ≤ x) (h : x ≤ 9223372036854775807) : wrap64 x = x := by
 unfold wrap64
 omega
theorem set_take {α β : Type} (f : α → β) (xs : List α) (out : List β) (i : Nat) (x : α) (hx : xs[i]? = some x) (hl : out.length = xs.length) (h : out.take i = (xs.take i).map f) :
  (out.set i (f x)).take (i + 1) = (xs.take (i + 1)).map f := by
 have hi : i < xs.length := (List.getElem?_eq_some_iff.1 hx).1
 rw [List.take_succ_eq_append_getElem (by simp; omega), List.take_succ_eq_append_getElem hi, List.map_append, List.map_singleton, ← h]
 congr 1
 ·rw [List.take_set]
  apply List.set_eq_of_length_le
  simp
  omega
 ·rw [List.getElem_set_self]
  rw [(List.getElem?_eq_some_iff.1 hx).2]
theorem copy {α β : Type} (f : α → β) (xs : List α) (L : Int → List β → Nat → Option (List β))
  (hend : ∀ out, Ev (L (xs.length : Int) out) out)
  (hstep : ∀ (i : Nat) (out : List β) (r : List β) (x : α), xs[i]? = some x → out.length = xs.length → Ev (L ((i : Int) + 1) (out.set i (f x))) r → Ev (L (i : Int) out) r) :
  ∀ out, out.length = xs.length → Ev (L 0 out) (xs.map f) := by
 have key : ∀ (d i : Nat) (out : List β), i + d = xs.length → out.length = xs.length → out.take i = (xs.take i).map f → Ev (L (i : Int) out) (xs.map f) := by
  intro d
  induction d with
  | zero =>
   intro i out hd hl ht
   have hi : i = xs.length := by omega
   subst hi
   rw [List.take_of_length_le (by omega), List.take_of_length_le (by omega)] at ht
   subst ht
   exact hend _
  | succ d ih =>
   intro i out hd hl ht
   have hi : i < xs.length := by omega
   have hx : xs[i]? = some xs[i] := List.getElem?_eq_getElem hi
   refine hstep i out _ _ hx hl ?_
   have := ih (i + 1) (out.set i (f xs[i])) (by omega) (by simpa using hl) (set_take f xs out i _ hx hl ht)
   rwa [show ((i + 1 : Nat) : Int) = (i : Int) + 1 by omega] at this
 intro out hl
 have := key xs.length 0 out (by omega) hl (by simp)
 simpa using this
theorem same {α : Type} (xs : List α) (L : Int → Nat → Option Bool)
  (hend : Ev (L (xs.length : Int)) true)
  (hstep : ∀ (i : Nat) (x : α), xs[i]? = some x → Ev (L ((i : Int) + 1)) true → Ev (L (i : Int)) true) : Ev (L 0) true := by
 have key : ∀ (d i : Nat), i + d = xs.length → Ev (L (i : Int)) true := by
  intro d
  induction d with
  | zero =>
   intro i hd
   have hi : i = xs.length := by omega
   subst hi
   exact hend
  | succ d ih =>
   intro i hd
   have hi : i < xs.length := by omega
   refine hstep i _ (List.getElem?_eq_getElem hi) ?_
   have := ih (i + 1) (by omega)
   rwa [show ((i + 1 : Nat) : Int) = (i : Int) + 1 by omega] at this
 simpa using key xs.length 0 (by omega)
theorem getD_some {α : Type} {xs : List α} {i : Nat} {x d : α} (h : xs[i]? = some x) : xs.getD ((i : Int).toNat) d = x := by
 simp [List.getD, h]
end Go.Proofs.YtgibacfgjmdjdaaDoor.Plain
end
section
set_option linter.unusedVariables false
set_option linter.unusedSimpArgs false
namespace Go.Proofs.YtgibacfgjmdjdaaDoor.Pure
open Go.RowKit Go.Proofs.YtgibacfgjmdjdaaDoor Go.Proofs.YtgibacfgjmdjdaaDoor.PFnExactIsStable Go.Proofs.YtgibacfgjmdjdaaDoorW.PrintWords Go.Proofs.YtgibacfgjmdjdaaDoorW.PrintLast Go.Proofs.YtgibacfgjmdjdaaDoor.Plain
theorem toI_is (l : List Int) (hl : l.length ≤ 35184372088832) : Ev (fun k => laws_toIntS.f k l) l := by
 refine evc (fun k => laws_toIntS.f.eq_1 ..) (ifp (by omega) (ifp (by omega) ?_))
 have := copy (fun x : Int => x) l (fun i out k => laws_toIntS.l0 k l out i) ?_ ?_ (List.replicate (l.length : Int).toNat 0) (by simp)
 ·simpa using this
 ·intro out
  exact stp (fun k => laws_toIntS.l0.eq_2 ..) (ifn (by omega) (sm _))
 ·intro i out r x hx hlen hk
  have hi : i < l.length := (List.getElem?_eq_some_iff.1 hx).1
  refine stp (fun k => laws_toIntS.l0.eq_2 ..) (ifp (by omega) (ifp (by omega) (ifp (by omega) ?_)))
  rw [show rd l (i : Int) = x from getD_some hx, up (by omega) (by omega : (i : Int) < (l.length : Int)) (by omega), Int.toNat_natCast]
  exact hk
theorem eqI_self (l : List Int) (hl : l.length ≤ 140737488351232) : Ev (fun k => laws_eqIntS.f k l l) true := by
 refine evc (fun k => laws_eqIntS.f.eq_1 ..) (ifp rfl ?_)
 refine same l (fun i k => laws_eqIntS.l0 k l l i) ?_ ?_
 ·exact stp (fun k => laws_eqIntS.l0.eq_2 ..) (ifn (by omega) (sm _))
 ·intro i x hx hk
  have hi : i < l.length := (List.getElem?_eq_some_iff.1 hx).1
  refine stp (fun k => laws_eqIntS.l0.eq_2 ..) (ifp (by omega) (ifp (by omega) (ifp (by omega) (ifp rfl ?_))))
  rw [up (by omega) (by omega : (i : Int) < (l.length : Int)) (by omega)]
  exact hk
theorem szStr_is (l : List ByteArray) (hs : ∀ x ∈ l, x.size ≤ 140737488351232) (hl : l.length ≤ 140737488351232) (a : Int) (h0 : 0 ≤ a) (h1 : a ≤ 1048576) : ∃ v, Ev (fun k => laws_szStringS.f k l a) v ∧ v ≤ a := by
 have key : ∀ (d i : Nat) (a : Int), i + d = l.length → 0 ≤ a → a ≤ 1048576 → ∃ v, Ev (fun k => laws_szStringS.l0 k l a (i : Int)) v ∧ v ≤ a := by
  intro d
  induction d with
  | zero =>
   intro i a hd h0 h1
   exact ⟨a, stp (fun k => laws_szStringS.l0.eq_2 ..) (ifn (by omega) (sm _)), Int.le_refl _⟩
  | succ d ih =>
   intro i a hd h0 h1
   have hi : i < l.length := by omega
   have hsz := hs l[i] (List.getElem_mem hi)
   have hr : rdOf ByteArray.empty l (i : Int) = l[i] := getD_some (List.getElem?_eq_getElem hi)
   by_cases hn : a - (l[i].size : Int) < 0
   ·refine ⟨-1, stp (fun k => laws_szStringS.l0.eq_2 ..) (ifp (by omega) (ifp (by omega) (ifp ?_ (sm _)))), by omega⟩
    rw [hr, w64 (by omega) (by omega)]; exact hn
   ·obtain ⟨v, hv, hle⟩ := ih (i + 1) (a - l[i].size) (by omega) (by omega) (by omega)
    refine ⟨v, stp (fun k => laws_szStringS.l0.eq_2 ..) (ifp (by omega) (ifp (by omega) (ifn ?_ ?_))), by omega⟩
    ·rw [hr, w64 (by omega) (by omega)]; exact hn
    ·rw [hr, w64 (by omega) (by omega), up (by omega) (by omega : (i : Int) < (l.length : Int)) (by omega)]
     exact hv
 by_cases hn : a - (l.length : Int) < 0
 ·refine ⟨-1, evc (fun k => laws_szStringS.f.eq_1 ..) (ifp ?_ (sm _)), by omega⟩
  rw [w64 (by omega) (by omega)]; exact hn
 ·obtain ⟨v, hv, hle⟩ := key l.length 0 (a - l.length) (by omega) (by omega) (by omega)
  refine ⟨v, evc (fun k => laws_szStringS.f.eq_1 ..) (ifn ?_ ?_), by omega⟩
  ·rw [w64 (by omega) (by omega)]; exact hn
  ·rw [w64 (by omega) (by omega)]; exact hv
theorem szOf {α : Type} {f : List α → Int → Option Int} (hf : ∀ l a, f l a = if (wrap64 (a - (l.length : Int))) < 0 then (some (-1)) else (some (wrap64 (a - (l.length : Int))))) (l : List α) (hl : l.length ≤ 140737488351232) (a : Int) (h0 : 0 ≤ a) (h1 : a ≤ 1048576) : ∃ v, f l a = some v ∧ v ≤ a := by
 rw [hf, w64 (by omega) (by omega)]
 by_cases hn : a - (l.length : Int) < 0
 ·exact ⟨-1, by rw [if_pos hn], by omega⟩
 ·exact ⟨_, by rw [if_neg hn], by omega⟩
theorem szNet_is (l0 : List ByteArray) (l1 : List S107) (l2 l3 : List Int) (l4 : List S109) (l5 : List S111) (hs : ∀ x ∈ l0, x.size ≤ 140737488351232) (h0 : l0.length ≤ 140737488351232) (h1 : l1.length ≤ 140737488351232) (h2 : l2.length ≤ 140737488351232) (h3 : l3.length ≤ 140737488351232) (h4 : l4.length ≤ 140737488351232) (h5 : l5.length ≤ 140737488351232) : ∃ v, Ev (fun k => laws_szNet.f k l0 l1 l2 l3 l4 l5 1048576) v ∧ v ≤ 1048576 := by
 obtain ⟨v0, e0, b0⟩ := szStr_is l0 hs h0 1048576 (by omega) (by omega)
 by_cases n0 : v0 < 0
 ·exact ⟨-1, evc (fun k => laws_szNet.f.eq_1 ..) (bnd e0 (ifp n0 (sm _))), by omega⟩
 obtain ⟨v1, e1, b1⟩ := szOf (f := laws_szLinkS.f) (fun _ _ => rfl) l1 h1 v0 (by omega) (by omega)
 by_cases n1 : v1 < 0
 ·exact ⟨-1, evc (fun k => laws_szNet.f.eq_1 ..) (bnd e0 (ifn n0 (bnd0 e1 (ifp n1 (sm _))))), by omega⟩
 obtain ⟨v2, e2, b2⟩ := szOf (f := laws_szIntS.f) (fun _ _ => rfl) l2 h2 v1 (by omega) (by omega)
 by_cases n2 : v2 < 0
 ·exact ⟨-1, evc (fun k => laws_szNet.f.eq_1 ..) (bnd e0 (ifn n0 (bnd0 e1 (ifn n1 (bnd0 e2 (ifp n2 (sm _))))))), by omega⟩
 obtain ⟨v3, e3, b3⟩ := szOf (f := laws_szIntS.f) (fun _ _ => rfl) l3 h3 v2 (by omega) (by omega)
 by_cases n3 : v3 < 0
 ·exact ⟨-1, evc (fun k => laws_szNet.f.eq_1 ..) (bnd e0 (ifn n0 (bnd0 e1 (ifn n1 (bnd0 e2 (ifn n2 (bnd0 e3 (ifp n3 (sm _))))))))), by omega⟩
 obtain ⟨v4, e4, b4⟩ := szOf (f := laws_szImportS.f) (fun _ _ => rfl) l4 h4 v3 (by omega) (by omega)
 by_cases n4 : v4 < 0
 ·exact ⟨-1, evc (fun k => laws_szNet.f.eq_1 ..) (bnd e0 (ifn n0 (bnd0 e1 (ifn n1 (bnd0 e2 (ifn n2 (bnd0 e3 (ifn n3 (bnd0 e4 (ifp n4 (sm _))))))))))), by omega⟩
 obtain ⟨v5, e5, b5⟩ := szOf (f := laws_szFilterS.f) (fun _ _ => rfl) l5 h5 v4 (by omega) (by omega)
 by_cases n5 : v5 < 0
 ·exact ⟨-1, evc (fun k => laws_szNet.f.eq_1 ..) (bnd e0 (ifn n0 (bnd0 e1 (ifn n1 (bnd0 e2 (ifn n2 (bnd0 e3 (ifn n3 (bnd0 e4 (ifn n4 (bnd0 e5 (ifp n5 (sm _))))))))))))), by omega⟩
 exact ⟨v5, evc (fun k => laws_szNet.f.eq_1 ..) (bnd e0 (ifn n0 (bnd0 e1 (ifn n1 (bnd0 e2 (ifn n2 (bnd0 e3 (ifn n3 (bnd0 e4 (ifn n4 (bnd0 e5 (ifn n5 (sm _))))))))))))), by omega⟩
theorem toStr_is (l : List ByteArray) (hl : l.length ≤ 8796093021952) : Ev (fun k => laws_toStringS.f k l) l := by
 refine evc (fun k => laws_toStringS.f.eq_1 ..) (ifp (by omega) (ifp (by omega) ?_))
 have := copy (fun x : ByteArray => x) l (fun i out k => laws_toStringS.l0 k l out i) ?_ ?_ (List.replicate (l.length : Int).toNat (⟨#[]⟩ : ByteArray)) (by simp)
 ·simpa using this
 ·intro out
  exact stp (fun k => laws_toStringS.l0.eq_2 ..) (ifn (by omega) (sm _))
 ·intro i out r x hx hlen hk
  have hi : i < l.length := (List.getElem?_eq_some_iff.1 hx).1
  refine stp (fun k => laws_toStringS.l0.eq_2 ..) (ifp (by omega) (ifp (by omega) (ifp (by omega) ?_)))
  rw [show rdOf ByteArray.empty l (i : Int) = x from getD_some hx, up (by omega) (by omega : (i : Int) < (l.length : Int)) (by omega), Int.toNat_natCast]
  exact hk
def cvL (x : S107) : S92 := ⟨x.f0, x.f1, x.f2⟩
def cvI (x : S109) : S95 := ⟨x.f0, x.f1, x.f2, x.f3, x.f4⟩
def cvF (x : S111) : S97 := ⟨x.f0, x.f1, x.f2, x.f3⟩
theorem toLink_is (l : List S107) (hl : l.length ≤ 5864062014634) : Ev (fun k => laws_toLinkS.f k l) (l.map cvL) := by
 refine evc (fun k => laws_toLinkS.f.eq_1 ..) (ifp (by omega) (ifp (by omega) ?_))
 refine copy cvL l (fun i out k => laws_toLinkS.l0 k l out i) ?_ ?_ (List.replicate (l.length : Int).toNat z92) (by simp)
 ·intro out
  exact stp (fun k => laws_toLinkS.l0.eq_2 ..) (ifn (by omega) (sm _))
 ·intro i out r x hx hlen hk
  have hi : i < l.length := (List.getElem?_eq_some_iff.1 hx).1
  refine stp (fun k => laws_toLinkS.l0.eq_2 ..) (ifp (by omega) (ifp (by omega) (bnd0 rfl (ifp (by omega) ?_))))
  rw [show rd_T107 l (i : Int) = x from getD_some hx, up (by omega) (by omega : (i : Int) < (l.length : Int)) (by omega), Int.toNat_natCast]
  exact hk
theorem toImport_is (l : List S109) (hl : l.length ≤ 3518437208780) : Ev (fun k => laws_toImportS.f k l) (l.map cvI) := by
 refine evc (fun k => laws_toImportS.f.eq_1 ..) (ifp (by omega) (ifp (by omega) ?_))
 refine copy cvI l (fun i out k => laws_toImportS.l0 k l out i) ?_ ?_ (List.replicate (l.length : Int).toNat z95) (by simp)
 ·intro out
  exact stp (fun k => laws_toImportS.l0.eq_2 ..) (ifn (by omega) (sm _))
 ·intro i out r x hx hlen hk
  have hi : i < l.length := (List.getElem?_eq_some_iff.1 hx).1
  refine stp (fun k => laws_toImportS.l0.eq_2 ..) (ifp (by omega) (ifp (by omega) (bnd0 rfl (ifp (by omega) ?_))))
  rw [show rd_T109 l (i : Int) = x from getD_some hx, up (by omega) (by omega : (i : Int) < (l.length : Int)) (by omega), Int.toNat_natCast]
  exact hk
theorem toFilter_is (l : List S111) (hl : l.length ≤ 4398046510976) : Ev (fun k => laws_toFilterS.f k l) (l.map cvF) := by
 refine evc (fun k => laws_toFilterS.f.eq_1 ..) (ifp (by omega) (ifp (by omega) ?_))
 refine copy cvF l (fun i out k => laws_toFilterS.l0 k l out i) ?_ ?_ (List.replicate (l.length : Int).toNat z97) (by simp)
 ·intro out
  exact stp (fun k => laws_toFilterS.l0.eq_2 ..) (ifn (by omega) (sm _))
 ·intro i out r x hx hlen hk
  have hi : i < l.length := (List.getElem?_eq_some_iff.1 hx).1
  refine stp (fun k => laws_toFilterS.l0.eq_2 ..) (ifp (by omega) (ifp (by omega) (bnd0 rfl (ifp (by omega) ?_))))
  rw [show rd_T111 l (i : Int) = x from getD_some hx, up (by omega) (by omega : (i : Int) < (l.length : Int)) (by omega), Int.toNat_natCast]
  exact hk
theorem toNet_is (l0 : List ByteArray) (l1 : List S107) (l2 l3 : List Int) (l4 : List S109) (l5 : List S111) (h0 : l0.length ≤ 8796093021952) (h1 : l1.length ≤ 5864062014634) (h2 : l2.length ≤ 17592186043904) (h3 : l3.length ≤ 17592186043904) (h4 : l4.length ≤ 3518437208780) (h5 : l5.length ≤ 4398046510976) : Ev (fun k => laws_toNet.f k l0 l1 l2 l3 l4 l5) (l0, l1.map cvL, l2, l3, l4.map cvI, l5.map cvF) :=
 evc (fun k => laws_toNet.f.eq_1 ..) (bnd (toStr_is l0 h0) (bnd (toLink_is l1 h1) (bnd (toI_is l2 (by omega)) (bnd (toI_is l3 (by omega)) (bnd (toImport_is l4 h4) (bnd (toFilter_is l5 h5) (sm _)))))))
theorem eqStr_self (l : List ByteArray) (hl : l.length ≤ 140737488351232) : Ev (fun k => laws_eqStringS.f k l l) true := by
 refine evc (fun k => laws_eqStringS.f.eq_1 ..) (ifp rfl ?_)
 refine same l (fun i k => laws_eqStringS.l0 k l l i) ?_ ?_
 ·exact stp (fun k => laws_eqStringS.l0.eq_2 ..) (ifn (by omega) (sm _))
 ·intro i x hx hk
  have hi : i < l.length := (List.getElem?_eq_some_iff.1 hx).1
  refine stp (fun k => laws_eqStringS.l0.eq_2 ..) (ifp (by omega) (ifp (by omega) (ifp (by omega) (ifp rfl ?_))))
  rw [up (by omega) (by omega : (i : Int) < (l.length : Int)) (by omega)]
  exact hk
theorem eqLink_self (l : List S92) (hl : l.length ≤ 140737488351232) : Ev (fun k => laws_eqLinkS.f k l l) true := by
 refine evc (fun k => laws_eqLinkS.f.eq_1 ..) (ifp rfl ?_)
 refine same l (fun i k => laws_eqLinkS.l0 k l l i) ?_ ?_
 ·exact stp (fun k => laws_eqLinkS.l0.eq_2 ..) (ifn (by omega) (sm _))
 ·intro i x hx hk
  have hi : i < l.length := (List.getElem?_eq_some_iff.1 hx).1
  refine stp (fun k => laws_eqLinkS.l0.eq_2 ..) (ifp (by omega) (ifp (by omega) (ifp (by omega) (bnd0 (a := true) (by unfold laws_eqLink.f; simp) (ifp rfl ?_)))))
  rw [up (by omega) (by omega : (i : Int) < (l.length : Int)) (by omega)]
  exact hk
theorem eqImport_self (l : List S95) (hl : l.length ≤ 140737488351232) : Ev (fun k => laws_eqImportS.f k l l) true := by
 refine evc (fun k => laws_eqImportS.f.eq_1 ..) (ifp rfl ?_)
 refine same l (fun i k => laws_eqImportS.l0 k l l i) ?_ ?_
 ·exact stp (fun k => laws_eqImportS.l0.eq_2 ..) (ifn (by omega) (sm _))
 ·intro i x hx hk
  have hi : i < l.length := (List.getElem?_eq_some_iff.1 hx).1
  refine stp (fun k => laws_eqImportS.l0.eq_2 ..) (ifp (by omega) (ifp (by omega) (ifp (by omega) (bnd0 (a := true) (by unfold laws_eqImport.f; simp) (ifp rfl ?_)))))
  rw [up (by omega) (by omega : (i : Int) < (l.length : Int)) (by omega)]
  exact hk
theorem eqFilter_self (l : List S97) (hl : l.length ≤ 140737488351232) : Ev (fun k => laws_eqFilterS.f k l l) true := by
 refine evc (fun k => laws_eqFilterS.f.eq_1 ..) (ifp rfl ?_)
 refine same l (fun i k => laws_eqFilterS.l0 k l l i) ?_ ?_
 ·exact stp (fun k => laws_eqFilterS.l0.eq_2 ..) (ifn (by omega) (sm _))
 ·intro i x hx hk
  have hi : i < l.length := (List.getElem?_eq_some_iff.1 hx).1
  refine stp (fun k => laws_eqFilterS.l0.eq_2 ..) (ifp (by omega) (ifp (by omega) (ifp (by omega) (bnd0 (a := true) (by unfold laws_eqFilter.f; simp) (ifp rfl ?_)))))
  rw [up (by omega) (by omega : (i : Int) < (l.length : Int)) (by omega)]
  exact hk
theorem eqNet_self (l0 : List ByteArray) (l1 : List S92) (l2 l3 : List Int) (l4 : List S95) (l5 : List S97) (h0 : l0.length ≤ 140737488351232) (h1 : l1.length ≤ 140737488351232) (h2 : l2.length ≤ 140737488351232) (h3 : l3.length ≤ 140737488351232) (h4 : l4.length ≤ 140737488351232) (h5 : l5.length ≤ 140737488351232) : Ev (fun k => laws_eqNet.f k l0 l1 l2 l3 l4 l5 l0 l1 l2 l3 l4 l5) true :=
 evc (fun k => laws_eqNet.f.eq_1 ..) (bnd (eqStr_self l0 h0) (bnd (eqLink_self l1 h1) (bnd (eqI_self l2 h2) (bnd (eqI_self l3 h3) (bnd (eqImport_self l4 h4) (bnd (eqFilter_self l5 h5) (ifp ⟨rfl, rfl, rfl, rfl, rfl, rfl⟩ (sm _))))))))
theorem findL {α : Type} (xs : List α) (p : α → Bool) (L : Int → Nat → Option Int) (hend : Ev (L (xs.length : Int)) (-1))
  (hstep : ∀ (i : Nat) (x : α), xs[i]? = some x → (p x = true → Ev (L (i : Int)) (i : Int)) ∧ (p x = false → ∀ r, Ev (L ((i : Int) + 1)) r → Ev (L (i : Int)) r)) : Ev (L 0) (idxB p xs 0) := by
 have key : ∀ (d i : Nat), i + d = xs.length → Ev (L (i : Int)) (idxB p (xs.drop i) i) := by
  intro d
  induction d with
  | zero =>
   intro i hd
   obtain rfl : i = xs.length := by omega
   rw [List.drop_length]
   exact hend
  | succ d ih =>
   intro i hd
   have hi : i < xs.length := by omega
   obtain ⟨h1, h2⟩ := hstep i xs[i] (List.getElem?_eq_getElem hi)
   rw [List.drop_eq_getElem_cons hi, idxB]
   cases hp : p xs[i] with
   | true => rw [if_pos rfl]; exact h1 hp
   | false =>
    rw [if_neg Bool.false_ne_true]
    have := ih (i + 1) (by omega)
    exact h2 hp _ (by rwa [show ((i + 1 : Nat) : Int) = (i : Int) + 1 by omega] at this)
 have := key xs.length 0 (by omega)
 rwa [List.drop_zero] at this
theorem link_is (l : List S92) (hl : l.length ≤ 140737488351232) (a b : Int) : Ev (fun k => spec_l06Link.f k l a b) (linkI l a b) := by
 refine evc (fun k => spec_l06Link.f.eq_1 ..) ?_
 refine findL l (joinB a b) (fun i k => spec_l06Link.l0 k l a b i) ?_ ?_
 ·exact stp (fun k => spec_l06Link.l0.eq_2 ..) (ifn (by omega) (sm _))
 ·intro i x hx
  have hi : i < l.length := (List.getElem?_eq_some_iff.1 hx).1
  have hr : rd_T92 l (i : Int) = x := getD_some hx
  have hu := up (i := (i : Int)) (by omega) (by omega : (i : Int) < (l.length : Int)) (by omega)
  constructor
  ·intro hp
   refine stp (fun k => spec_l06Link.l0.eq_2 ..) (ifp (by omega) (ifp (by omega) ?_))
   rw [hr]
   unfold joinB at hp
   by_cases h1 : x.f0 = a
   ·refine ifp h1 ?_
    by_cases h2 : x.f1 = b
    ·exact ifp h2 (sm _)
    ·refine ifn h2 ?_
     by_cases h3 : x.f0 = b
     ·refine ifp h3 ?_
      by_cases h4 : x.f1 = a
      ·exact ifp h4 (sm _)
      ·simp [h2, h4] at hp
     ·simp [h2, h3] at hp
   ·refine ifn h1 ?_
    by_cases h3 : x.f0 = b
    ·refine ifp h3 ?_
     by_cases h4 : x.f1 = a
     ·exact ifp h4 (sm _)
     ·simp [h1, h4] at hp
    ·simp [h1, h3] at hp
  ·intro hp r hk
   refine stp (fun k => spec_l06Link.l0.eq_2 ..) (ifp (by omega) (ifp (by omega) ?_))
   rw [hr, hu]
   unfold joinB at hp
   by_cases h1 : x.f0 = a
   ·refine ifp h1 ?_
    by_cases h2 : x.f1 = b
    ·simp [h1, h2] at hp
    ·refine ifn h2 ?_
     by_cases h3 : x.f0 = b
     ·refine ifp h3 ?_
      by_cases h4 : x.f1 = a
      ·simp [h3, h4] at hp
      ·exact ifn h4 hk
     ·exact ifn h3 hk
   ·refine ifn h1 ?_
    by_cases h3 : x.f0 = b
    ·refine ifp h3 ?_
     by_cases h4 : x.f1 = a
     ·simp [h3, h4] at hp
     ·exact ifn h4 hk
    ·exact ifn h3 hk
def sameS (w y : ByteArray) : Bool := decide (y.toList = w.toList)
theorem place_is (l : List ByteArray) (hl : l.length ≤ 140737488351232) (w : ByteArray) : Ev (fun k => spec_l06Place.f k l w) (idxB (sameS w) l 0) := by
 refine evc (fun k => spec_l06Place.f.eq_1 ..) ?_
 refine findL l (sameS w) (fun i k => spec_l06Place.l0 k l w i) ?_ ?_
 ·exact stp (fun k => spec_l06Place.l0.eq_2 ..) (ifn (by omega) (sm _))
 ·intro i x hx
  have hi : i < l.length := (List.getElem?_eq_some_iff.1 hx).1
  have hr : rdOf ByteArray.empty l (i : Int) = x := getD_some hx
  have hu := up (i := (i : Int)) (by omega) (by omega : (i : Int) < (l.length : Int)) (by omega)
  constructor
  ·intro hp
   refine stp (fun k => spec_l06Place.l0.eq_2 ..) (ifp (by omega) (ifp (by omega) (ifp ?_ (sm _))))
   rw [hr]; exact of_decide_eq_true hp
  ·intro hp r hk
   refine stp (fun k => spec_l06Place.l0.eq_2 ..) (ifp (by omega) (ifp (by omega) (ifn ?_ ?_)))
   ·rw [hr]; exact of_decide_eq_false hp
   ·rw [hu]; exact hk
theorem contains_is (l : List ByteArray) (hl : l.length ≤ 140737488351232) (w : ByteArray) : Ev (fun k => slices_Contains_string_string.f k l w) (decide (idxB (sameS w) l 0 ≥ 0)) := by
 refine evc (fun k => slices_Contains_string_string.f.eq_1 ..) (bnd ?_ (sm _))
 refine evc (fun k => slices_Index_string_string.f.eq_1 ..) ?_
 refine findL l (sameS w) (fun i k => slices_Index_string_string.l0 k l w (l.length : Int) i) ?_ ?_
 ·exact stp (fun k => slices_Index_string_string.l0.eq_2 ..) (ifn (by omega) (sm _))
 ·intro i x hx
  have hi : i < l.length := (List.getElem?_eq_some_iff.1 hx).1
  have hr : rdOf ByteArray.empty l (i : Int) = x := getD_some hx
  have hu := up (i := (i : Int)) (by omega) (by omega : (i : Int) < (l.length : Int)) (by omega)
  constructor
  ·intro hp
   refine stp (fun k => slices_Index_string_string.l0.eq_2 ..) (ifp (by omega) (ifp (by omega) (ifp (by omega) (ifp ?_ (sm _)))))
   rw [hr]; exact (of_decide_eq_true hp).symm
  ·intro hp r hk
   refine stp (fun k => slices_Index_string_string.l0.eq_2 ..) (ifp (by omega) (ifp (by omega) (ifp (by omega) (ifn ?_ ?_))))
   ·rw [hr]; exact fun q => of_decide_eq_false hp q.symm
   ·rw [hu]; exact hk
theorem wrap_up {i : Int} {n : Nat} (h0 : 0 ≤ i) (h : i < (n : Int)) (hn : n ≤ 140737488351232) : wrap64 (i + 1) = i + 1 := by
 unfold wrap64
 omega
def lt (c : Int) : Bool := (decide (97 ≤ c) && decide (c ≤ 122)) || (decide (65 ≤ c) && decide (c ≤ 90)) || (c == 95)
def dg (c : Int) : Bool := decide (48 ≤ c) && decide (c ≤ 57)
theorem letter_is (c : Int) : spec_l00Letter.f c = some (lt c) := by
 unfold spec_l00Letter.f lt
 by_cases h1 : 97 ≤ c <;> by_cases h2 : c ≤ 122 <;> by_cases h3 : 65 ≤ c <;> by_cases h4 : c ≤ 90 <;> simp [h1, h2, h3, h4]
theorem digit_is (c : Int) : spec_l00Digit.f c = some (dg c) := by
 unfold spec_l00Digit.f dg
 by_cases h1 : 48 ≤ c <;> simp [h1]
def allOK (s : ByteArray) : Nat → Int → Bool
 | 0, _ => true
 | d + 1, i => (lt (bt s i) || (decide (i ≠ 0) && dg (bt s i))) && allOK s d (i + 1)
theorem impl_step (k : Nat) (s : ByteArray) (i : Int) (h0 : 0 ≤ i) (h1 : i < (s.size : Int)) :
  impl_NameOK.l0 (k + 1) s (s.size : Int) i = if (lt (bt s i) || (decide (i ≠ 0) && dg (bt s i))) = true then impl_NameOK.l0 k s (s.size : Int) (wrap64 (i + 1)) else some false := by
 simp only [impl_NameOK.l0]
 rw [if_pos h1, if_pos h0, if_pos h1]
 generalize bt s i = c
 unfold lt dg
 by_cases g1 : 97 ≤ c <;> by_cases g2 : c ≤ 122 <;> by_cases g3 : 65 ≤ c <;> by_cases g4 : c ≤ 90 <;> by_cases g5 : c = 95 <;> by_cases g6 : i = 0 <;> by_cases g7 : 48 ≤ c <;> by_cases g8 : c ≤ 57 <;> simp [g1, g2, g3, g4, g5, g6, g7, g8]
theorem impl_loop (s : ByteArray) (hn : s.size ≤ 140737488351232) (d : Nat) : ∀ (k : Nat) (i : Int), 0 ≤ i → (s.size : Int) - i = d → d < k →
  impl_NameOK.l0 k s (s.size : Int) i = some (allOK s d i && decide (1 ≤ s.size) && decide (s.size ≤ 40)) := by
 induction d with
 | zero =>
  intro k i h0 hd hk
  obtain ⟨k, rfl⟩ : ∃ m, k = m + 1 := ⟨k - 1, by omega⟩
  simp only [impl_NameOK.l0]
  rw [if_neg (by omega)]
  simp only [impl_within.f, allOK, Bool.true_and]
  by_cases g1 : 1 ≤ s.size
  ·rw [if_pos (by omega)]; simp only [Option.bind_some, decide_eq_true g1, Bool.true_and]
   by_cases g2 : s.size ≤ 40
   ·rw [decide_eq_true g2, decide_eq_true (by omega)]
   ·rw [decide_eq_false g2, decide_eq_false (by omega)]
  ·rw [if_neg (by omega)]; simp only [Option.bind_some, decide_eq_false g1, Bool.false_and]
 | succ d ih =>
  intro k i h0 hd hk
  obtain ⟨k, rfl⟩ : ∃ m, k = m + 1 := ⟨k - 1, by omega⟩
  rw [impl_step k s i h0 (by omega)]
  simp only [allOK]
  cases h : (lt (bt s i) || (decide (i ≠ 0) && dg (bt s i))) with
  | true => rw [if_pos rfl, wrap_up h0 (by omega) hn, ih k (i + 1) (by omega) (by omega) (by omega)]; simp
  | false => simp
theorem spec_loop (s : ByteArray) (hn : s.size ≤ 140737488351232) (d : Nat) : ∀ (k : Nat) (i : Int), 1 ≤ i → (s.size : Int) - i = d → d < k →
  spec_l00Word.l0 k s i = some (allOK s d i) := by
 induction d with
 | zero =>
  intro k i h0 hd hk
  obtain ⟨k, rfl⟩ : ∃ m, k = m + 1 := ⟨k - 1, by omega⟩
  simp only [spec_l00Word.l0]
  rw [if_neg (by omega)]
  simp only [allOK]
 | succ d ih =>
  intro k i h0 hd hk
  obtain ⟨k, rfl⟩ : ∃ m, k = m + 1 := ⟨k - 1, by omega⟩
  simp only [spec_l00Word.l0, letter_is, digit_is, Option.bind_some, allOK]
  rw [if_pos (by omega), if_pos (by omega), wrap_up (by omega) (by omega) hn, ih k (i + 1) (by omega) (by omega) (by omega), decide_eq_true (by omega : i ≠ 0)]
  cases lt (bt s i) <;> cases dg (bt s i) <;> simp
theorem spec_is (s : ByteArray) (hn : s.size ≤ 140737488351232) (k : Nat) (hk : s.size + 2 < k) :
  spec_NameOK.f k s = some (allOK s s.size 0 && decide (1 ≤ s.size) && decide (s.size ≤ 40)) := by
 obtain ⟨k, rfl⟩ : ∃ m, k = m + 1 := ⟨k - 1, by omega⟩
 unfold spec_NameOK.f spec_l00Word.f
 by_cases g1 : 1 ≤ s.size
 ·rw [if_neg (by omega)]
  by_cases g2 : s.size ≤ 40
  ·rw [if_neg (by omega), if_pos (by omega), letter_is]
   simp only [Option.bind_some, spec_l00Word.j0, decide_eq_true g1, decide_eq_true g2, Bool.and_true]
   rw [spec_loop s hn (s.size - 1) k 1 (by omega) (by omega) (by omega)]
   obtain ⟨m, hm⟩ : ∃ m, s.size = m + 1 := ⟨s.size - 1, by omega⟩
   rw [hm]
   simp only [allOK, Nat.add_sub_cancel]
   cases lt (bt s 0) <;> simp
  ·rw [if_pos (by omega)]
   simp only [Option.bind_some, spec_l00Word.j0, decide_eq_false g2, Bool.and_false]
   rfl
 ·rw [if_pos (by omega)]
  simp only [Option.bind_some, spec_l00Word.j0, decide_eq_false g1, Bool.and_false, Bool.false_and]
  rfl
def nameB (s : ByteArray) : Bool := allOK s s.size 0 && decide (1 ≤ s.size) && decide (s.size ≤ 40)
theorem sname_is (s : ByteArray) (hn : s.size ≤ 140737488351232) : Ev (fun k => spec_NameOK.f k s) (nameB s) := ⟨s.size + 3, fun k hk => spec_is s hn k (by omega)⟩
theorem iname_is (s : ByteArray) (hn : s.size ≤ 140737488351232) : Ev (fun k => impl_NameOK.f k s) (nameB s) := ⟨s.size + 3, fun k hk => by unfold impl_NameOK.f; exact impl_loop s hn s.size k 0 (by omega) (by omega) (by omega)⟩
def nmB (all : List ByteArray) : List ByteArray → Nat → Bool
 | [], _ => true
 | y :: r, i => nameB y && (!(decide (idxB (sameS y) (all.take i) 0 ≥ 0)) && nmB all r (i + 1))
theorem snames_is (all : List ByteArray) (ha : all.length ≤ 140737488351232) : ∀ (l : List ByteArray) (i : Nat), (∀ x ∈ l, x.size ≤ 140737488351232) → Ev (fun k => snamesO k all l i) (nmB all l i)
 | [], i, _ => evc (fun k => snamesO.eq_1 ..) (sm _)
 | y :: r, i, h => by
  refine evc (fun k => snamesO.eq_2 ..) (bnd (sname_is y (h y List.mem_cons_self)) ?_)
  rw [nmB]
  cases nameB y with
  | false => exact ifp rfl (sm _)
  | true =>
   refine ifn (by decide) (bnd (place_is (all.take i) (by rw [List.length_take]; omega) y) ?_)
   cases hq : decide (idxB (sameS y) (all.take i) 0 ≥ 0) with
   | true => exact ifp rfl (sm _)
   | false =>
    rw [Bool.not_false, Bool.true_and, Bool.true_and]
    exact ifn Bool.false_ne_true (snames_is all ha r (i + 1) (fun x hx => h x (List.mem_cons_of_mem _ hx)))
theorem inames_is (all : List ByteArray) (ha : all.length ≤ 140737488351232) : ∀ (l : List ByteArray) (i : Nat), (∀ x ∈ l, x.size ≤ 140737488351232) → Ev (fun k => namesO k all l i) (nmB all l i)
 | [], i, _ => evc (fun k => namesO.eq_1 ..) (sm _)
 | y :: r, i, h => by
  refine evc (fun k => namesO.eq_2 ..) (bnd (iname_is y (h y List.mem_cons_self)) ?_)
  rw [nmB]
  cases nameB y with
  | false => exact ifn Bool.false_ne_true (sm _)
  | true =>
   refine ifp rfl (bnd (contains_is (all.take i) (by rw [List.length_take]; omega) y) ?_)
   cases hq : decide (idxB (sameS y) (all.take i) 0 ≥ 0) with
   | true => exact ifp rfl (sm _)
   | false =>
    rw [Bool.not_false, Bool.true_and, Bool.true_and]
    exact ifn Bool.false_ne_true (inames_is all ha r (i + 1) (fun x hx => h x (List.mem_cons_of_mem _ hx)))
def risB (n : Nat) (l : List Int) : Nat → Nat → Bool
 | 0, _ => true
 | d + 1, i => (inB (l.getD i 0) 0 ((n : Int) - 1) && !(decide (i > 0) && decide (l.getD (i - 1) 0 ≥ l.getD i 0))) && risB n l d (i + 1)
theorem lin_is (a lo hi : Int) : spec_l01In.f a lo hi = some (inB a lo hi) := sin_is a lo hi
theorem rising_is (n : Nat) (hn : 1 ≤ n) (hn4 : n ≤ 4) (l : List Int) (hl : l.length ≤ 140737488351232) : Ev (fun k => spec_l06Rising.f k l (n : Int)) (risB n l l.length 0) := by
 refine evc (fun k => spec_l06Rising.f.eq_1 ..) ?_
 have key : ∀ (d i : Nat), i + d = l.length → Ev (fun k => spec_l06Rising.l0 k l (n : Int) (i : Int)) (risB n l d i) := by
  intro d
  induction d with
  | zero => intro i hd; exact stp (fun k => spec_l06Rising.l0.eq_2 ..) (ifn (by omega) (sm _))
  | succ d ih =>
   intro i hd
   have hr : rd l (i : Int) = l.getD i 0 := by unfold rd; rw [Int.toNat_natCast]
   have hnx := ih (i + 1) (by omega)
   rw [show ((i + 1 : Nat) : Int) = (i : Int) + 1 by omega] at hnx
   refine stp (fun k => spec_l06Rising.l0.eq_2 ..) (ifp (by omega) (ifp (by omega) ?_))
   rw [hr, w64 (x := (n : Int) - 1) (by omega) (by omega), up (i := (i : Int)) (by omega) (by omega : (i : Int) < (l.length : Int)) (by omega), risB]
   refine bnd0 (lin_is _ _ _) ?_
   cases inB (l.getD i 0) 0 ((n : Int) - 1) with
   | false => exact ifn Bool.false_ne_true (sm _)
   | true =>
    refine ifp rfl ?_
    rw [Bool.true_and]
    by_cases h0 : i > 0
    ·have hr1 : rd l (wrap64 ((i : Int) - 1)) = l.getD (i - 1) 0 := by rw [w64 (by omega) (by omega)]; unfold rd; rw [show ((i : Int) - 1).toNat = i - 1 by omega]
     refine ifp (by omega) (ifp (by rw [w64 (by omega) (by omega)]; omega) (ifp (by rw [w64 (by omega) (by omega)]; omega) ?_))
     rw [hr1, decide_eq_true h0, Bool.true_and]
     by_cases h1 : l.getD (i - 1) 0 ≥ l.getD i 0
     ·rw [decide_eq_true h1]; exact ifp h1 (sm _)
     ·rw [decide_eq_false h1]; exact ifn h1 hnx
    ·rw [decide_eq_false h0]; exact ifn (by omega) hnx
 have := key l.length 0 (by omega)
 exact this
theorem routers_is (l0 : List ByteArray) (l1 : List S92) (l2 l3 : List Int) (l4 : List S95) (l5 : List S97) (hn : 1 ≤ l0.length) (hn4 : l0.length ≤ 4) (l : List Int) (hl : l.length ≤ 140737488351232) : Ev (fun k => impl_areRouters.f k l0 l1 l2 l3 l4 l5 l) (risB l0.length l l.length 0) := by
 refine evc (fun k => impl_areRouters.f.eq_1 ..) ?_
 have key : ∀ (d i : Nat), i + d = l.length → Ev (fun k => impl_areRouters.l0 k l l (l.length : Int) (i : Int) l0 l1 l2 l3 l4 l5) (risB l0.length l d i) := by
  intro d
  induction d with
  | zero => intro i hd; exact stp (fun k => impl_areRouters.l0.eq_2 ..) (ifn (by omega) (sm _))
  | succ d ih =>
   intro i hd
   have hr : rd l (i : Int) = l.getD i 0 := by unfold rd; rw [Int.toNat_natCast]
   have hnx := ih (i + 1) (by omega)
   rw [show ((i + 1 : Nat) : Int) = (i : Int) + 1 by omega] at hnx
   refine stp (fun k => impl_areRouters.l0.eq_2 ..) (ifp (by omega) (ifp (by omega) (ifp (by omega) ?_)))
   rw [hr, up (i := (i : Int)) (by omega) (by omega : (i : Int) < (l.length : Int)) (by omega), risB]
   refine bnd0 (a := inB (l.getD i 0) 0 ((l0.length : Int) - 1)) ?_ ?_
   ·unfold impl_isRouter.f
    rw [w64 (x := (l0.length : Int) - 1) (by omega) (by omega), within_is]
    rfl
   cases inB (l.getD i 0) 0 ((l0.length : Int) - 1) with
   | false => exact ifn Bool.false_ne_true (sm _)
   | true =>
    refine ifp rfl ?_
    rw [Bool.true_and]
    by_cases h0 : i > 0
    ·have hr1 : rd l (wrap64 ((i : Int) - 1)) = l.getD (i - 1) 0 := by rw [w64 (by omega) (by omega)]; unfold rd; rw [show ((i : Int) - 1).toNat = i - 1 by omega]
     refine ifp (by omega) (ifp (by rw [w64 (by omega) (by omega)]; omega) (ifp (by rw [w64 (by omega) (by omega)]; omega) ?_))
     rw [hr1, decide_eq_true h0, Bool.true_and]
     by_cases h1 : l.getD (i - 1) 0 ≥ l.getD i 0
     ·rw [decide_eq_true h1]; exact ifp h1 (sm _)
     ·rw [decide_eq_false h1]; exact ifn h1 hnx
    ·rw [decide_eq_false h0]; exact ifn (by omega) hnx
 exact key l.length 0 (by omega)
theorem idxB_nonneg {α : Type} (p : α → Bool) : ∀ (l : List α) (i : Nat), (l.any p = true → (i : Int) ≤ idxB p l i ∧ idxB p l i < i + l.length) ∧ (l.any p = false → idxB p l i = -1)
 | [], i => ⟨fun h => by simp at h, fun _ => rfl⟩
 | x :: r, i => by
  obtain ⟨h1, h2⟩ := idxB_nonneg p r (i + 1)
  rw [List.any_cons, idxB]
  cases hp : p x with
  | true => exact ⟨fun _ => by rw [if_pos rfl, List.length_cons]; omega, fun h => by cases h⟩
  | false =>
   rw [Bool.false_or, if_neg Bool.false_ne_true, List.length_cons]
   exact ⟨fun h => by have := h1 h; omega, h2⟩
theorem idxB_ge {α : Type} (p : α → Bool) (l : List α) : decide (idxB p l 0 ≥ 0) = l.any p := by
 obtain ⟨h1, h2⟩ := idxB_nonneg p l 0
 cases h : l.any p with
 | true => exact decide_eq_true (by have := h1 h; omega)
 | false => exact decide_eq_false (by rw [h2 h]; omega)
theorem idxB_app {α : Type} (p : α → Bool) (x : α) (r : List α) (hx : p x = true) : ∀ (l : List α) (i : Nat), decide (idxB p (l ++ x :: r) i < ((i + l.length : Nat) : Int)) = l.any p
 | [], i => by
  rw [List.nil_append, idxB, if_pos hx]
  exact decide_eq_false (by simp)
 | y :: l, i => by
  have ih := idxB_app p x r hx l (i + 1)
  rw [List.cons_append, idxB, List.any_cons]
  cases hp : p y with
  | true => rw [if_pos rfl, Bool.true_or, List.length_cons]; exact decide_eq_true (by omega)
  | false =>
   rw [if_neg Bool.false_ne_true, Bool.false_or, ← ih, List.length_cons, show i + (l.length + 1) = i + 1 + l.length by omega]
theorem slinks_is (n : Nat) (all : List S92) (ha : all.length ≤ 140737488351232) : ∀ (l : List S92) (pre : List S92), all = pre ++ l → Ev (fun k => slinksO k n all l pre.length) (linksB n all l pre.length)
 | [], pre, _ => evc (fun k => slinksO.eq_1 ..) (sm _)
 | x :: r, pre, h => by
  refine evc (fun k => slinksO.eq_2 ..) ?_
  have hj : joinB x.f0 x.f1 x = true := by unfold joinB; simp
  have hlt := idxB_app (joinB x.f0 x.f1) x r hj pre 0
  rw [Nat.zero_add, ← h] at hlt
  have htk : all.take pre.length = pre := by rw [h]; simp
  have hge := idxB_ge (joinB x.f0 x.f1) pre
  have hnx := slinks_is n all ha r (pre ++ [x]) (by rw [h]; simp)
  rw [List.length_append, List.length_singleton] at hnx
  rw [linksB]
  unfold linkB linkI
  rw [hlt]
  unfold routerB inB
  cases decide (0 ≤ x.f0) && decide (x.f0 ≤ (n : Int) - 1) with
  | false => exact ifp rfl (sm _)
  | true =>
   cases decide (0 ≤ x.f1) && decide (x.f1 ≤ (n : Int) - 1) with
   | false => exact ifp rfl (sm _)
   | true =>
    cases x.f0 == x.f1 with
    | true => exact ifp rfl (sm _)
    | false =>
     cases decide (1 ≤ x.f2) && decide (x.f2 ≤ 100) with
     | false => 
      rw [show ((true && (true && (!false && (!(pre.any (joinB x.f0 x.f1)) && false)))) && linksB n all r (pre.length + 1)) = false from by simp]
      exact ifp rfl (sm _)
     | true =>
      refine ifn (by decide) (bnd (link_is (all.take pre.length) (by rw [List.length_take]; omega) x.f0 x.f1) ?_)
      rw [htk]
      unfold linkI
      rw [hge]
      cases pre.any (joinB x.f0 x.f1) with
      | true => exact ifp rfl (sm _)
      | false => exact ifn Bool.false_ne_true hnx
theorem simps_is (all : List S92) (ha : all.length ≤ 140737488351232) : ∀ (l : List S95), Ev (fun k => simpsO k all l) (!(l.any (impBad all)))
 | [] => evc (fun k => simpsO.eq_1 ..) (sm _)
 | x :: r => by
  have hnx := simps_is all ha r
  refine evc (fun k => simpsO.eq_2 ..) (bnd (link_is all ha x.f0 x.f1) ?_)
  have hz : (((((decide (linkI all x.f0 x.f1 < 0)) || (!(inB x.f2 0 2))) || (!(inB x.f3 1 4))) || ((x.f3 == 2) && (!(inB x.f4 0 1000)))) || ((x.f3 != 2) && (x.f4 != 0))) = impBad all x := by
   unfold impBad importB
   by_cases h2 : x.f3 = 2
   ·have e1 : (x.f3 == 2) = true := by simpa using h2
    have e2 : (x.f3 != 2) = false := by rw [bne, e1]; rfl
    rw [e1, e2, if_pos h2]
    cases decide (linkI all x.f0 x.f1 < 0) <;> cases inB x.f2 0 2 <;> cases inB x.f3 1 4 <;> cases inB x.f4 0 1000 <;> rfl
   ·have e1 : (x.f3 == 2) = false := by simpa using h2
    have e2 : (x.f3 != 2) = true := by rw [bne, e1]; rfl
    rw [e1, e2, if_neg h2]
    have e3 : (x.f4 != 0) = !(inB x.f4 0 0) := by
     unfold inB
     rw [Bool.eq_iff_iff]
     simp
     omega
    rw [e3]
    cases decide (linkI all x.f0 x.f1 < 0) <;> cases inB x.f2 0 2 <;> cases inB x.f3 1 4 <;> cases inB x.f4 0 0 <;> rfl
  rw [hz, List.any_cons]
  cases impBad all x with
  | true => exact ifp rfl (sm _)
  | false => exact ifn Bool.false_ne_true hnx
theorem sfilts_is (all : List S92) (ha : all.length ≤ 140737488351232) : ∀ (l : List S97), Ev (fun k => sfiltsO k all l) (!(l.any (filtBad all)))
 | [] => evc (fun k => sfiltsO.eq_1 ..) (sm _)
 | x :: r => by
  have hnx := sfilts_is all ha r
  refine evc (fun k => sfiltsO.eq_2 ..) (bnd (link_is all ha x.f0 x.f1) ?_)
  have hz : (((decide (linkI all x.f0 x.f1 < 0)) || (!(inB x.f2 0 15))) || (!(inB x.f3 x.f2 15))) = filtBad all x := by
   unfold filtBad
   have e : (!inB x.f2 0 x.f3 || decide (x.f3 > 15)) = (!(inB x.f2 0 15) || !(inB x.f3 x.f2 15)) := by
    unfold inB
    rw [Bool.eq_iff_iff]
    simp
    omega
   rw [e, Bool.or_assoc]
  rw [hz, List.any_cons]
  cases filtBad all x with
  | true => exact ifp rfl (sm _)
  | false => exact ifn Bool.false_ne_true hnx
def netB (l0 : List ByteArray) (l1 : List S92) (l2 l3 : List Int) (l4 : List S95) (l5 : List S97) : Bool :=
 (inB l0.length 1 4 && (decide (l1.length ≤ 6) && (decide (l4.length ≤ 12) && decide (l5.length ≤ 6)))) && (risB l0.length l2 l2.length 0 && (risB l0.length l3 l3.length 0 && (decide (l3.length ≤ 2) && (nmB l0 l0 0 && (linksB l0.length l1 l1 0 && (!(l4.any (impBad l1)) && !(l5.any (filtBad l1))))))))
section
variable (l0 : List ByteArray) (l1 : List S92) (l2 l3 : List Int) (l4 : List S95) (l5 : List S97) (hs : ∀ x ∈ l0, x.size ≤ 140737488351232) (h2 : l2.length ≤ 140737488351232) (h3 : l3.length ≤ 140737488351232)
theorem netB_no (h : ¬ (inB l0.length 1 4 = true ∧ l1.length ≤ 6 ∧ l4.length ≤ 12 ∧ l5.length ≤ 6)) : netB l0 l1 l2 l3 l4 l5 = false := by
 unfold netB
 rw [Bool.and_eq_false_iff]
 left
 rw [Bool.eq_false_iff]
 intro q
 simp only [Bool.and_eq_true, decide_eq_true_eq] at q
 exact h ⟨q.1, q.2.1, q.2.2.1, q.2.2.2⟩
theorem netB_yes (h : inB l0.length 1 4 = true ∧ l1.length ≤ 6 ∧ l4.length ≤ 12 ∧ l5.length ≤ 6) : netB l0 l1 l2 l3 l4 l5 = (risB l0.length l2 l2.length 0 && (risB l0.length l3 l3.length 0 && (decide (l3.length ≤ 2) && (nmB l0 l0 0 && (linksB l0.length l1 l1 0 && (!(l4.any (impBad l1)) && !(l5.any (filtBad l1)))))))) := by
 unfold netB
 rw [h.1, decide_eq_true h.2.1, decide_eq_true h.2.2.1, decide_eq_true h.2.2.2]
 rfl
include hs h2 h3
theorem specNet_is : Ev (fun k => spec_NetOK.f k l0 l1 l2 l3 l4 l5) (netB l0 l1 l2 l3 l4 l5) := by
 refine evc (fun k => spec_NetOK.f.eq_1 ..) ?_
 by_cases hg : inB l0.length 1 4 = true ∧ l1.length ≤ 6 ∧ l4.length ≤ 12 ∧ l5.length ≤ 6
 ·have hn : 1 ≤ l0.length ∧ l0.length ≤ 4 := by have := hg.1; unfold inB at this; simp at this; omega
  rw [netB_yes l0 l1 l2 l3 l4 l5 hg]
  rw [hg.1, decide_eq_false (show ¬ (l1.length : Int) > 6 by omega), decide_eq_false (show ¬ (l4.length : Int) > 12 by omega), decide_eq_false (show ¬ (l5.length : Int) > 6 by omega)]
  refine ifn (by decide) (bnd (rising_is _ hn.1 hn.2 l2 h2) ?_)
  cases risB l0.length l2 l2.length 0 with
  | false => exact ifp rfl (sm _)
  | true =>
   refine ifn (by decide) (bnd (rising_is _ hn.1 hn.2 l3 h3) ?_)
   cases risB l0.length l3 l3.length 0 with
   | false => exact ifp rfl (sm _)
   | true =>
    by_cases h9 : l3.length ≤ 2
    ·rw [decide_eq_false (show ¬ (l3.length : Int) > 2 by omega)]
     refine ifn (by decide) (bnd (snames_is l0 (by omega) l0 0 hs) ?_)
     rw [decide_eq_true h9]
     cases nmB l0 l0 0 with
     | false => exact ifp rfl (sm _)
     | true =>
      refine ifn (by decide) (bnd (slinks_is l0.length l1 (by omega) l1 [] rfl) ?_)
      rw [List.length_nil]
      cases linksB l0.length l1 l1 0 with
      | false => exact ifp rfl (sm _)
      | true =>
       refine ifn (by decide) (bnd (simps_is l1 (by omega) l4) ?_)
       cases l4.any (impBad l1) with
       | true => exact ifp rfl (sm _)
       | false => exact ifn (by decide) (sfilts_is l1 (by omega) l5)
    ·rw [decide_eq_false h9, decide_eq_true (show (l3.length : Int) > 2 by omega)]
     exact ifp rfl (sm _)
 ·rw [netB_no l0 l1 l2 l3 l4 l5 hg]
  refine ifp ?_ (sm _)
  by_cases i1 : inB l0.length 1 4 = true
  ·by_cases i2 : l1.length ≤ 6
   ·by_cases i3 : l4.length ≤ 12
    ·have i4 : ¬ l5.length ≤ 6 := fun q => hg ⟨i1, i2, i3, q⟩
     rw [decide_eq_true (show (l5.length : Int) > 6 by omega), Bool.or_true]
    ·rw [decide_eq_true (show (l4.length : Int) > 12 by omega), Bool.or_true, Bool.true_or]
   ·rw [decide_eq_true (show (l1.length : Int) > 6 by omega), Bool.or_true, Bool.true_or, Bool.true_or]
  ·rw [Bool.eq_false_iff.2 i1]
   rfl
theorem implNet_is : Ev (fun k => impl_isNet.f k l0 l1 l2 l3 l4 l5) (netB l0 l1 l2 l3 l4 l5) := by
 refine evc (fun k => impl_isNet.f.eq_1 ..) ?_
 by_cases hg : inB l0.length 1 4 = true ∧ l1.length ≤ 6 ∧ l4.length ≤ 12 ∧ l5.length ≤ 6
 ·have hn : 1 ≤ l0.length ∧ l0.length ≤ 4 := by have := hg.1; unfold inB at this; simp at this; omega
  rw [netB_yes l0 l1 l2 l3 l4 l5 hg]
  have hra := routers_is l0 l1 l2 l3 l4 l5 hn.1 hn.2 l2 h2
  have hrb := routers_is l0 l1 l2 l3 l4 l5 hn.1 hn.2 l3 h3
  refine ifp hg (bnd (inames_is l0 (by omega) l0 0 hs) ?_)
  cases nmB l0 l0 0 with
  | false => simp only [Bool.false_and, Bool.and_false]; exact ifn Bool.false_ne_true (sm _)
  | true =>
   refine ifp rfl ?_
   cases linksB l0.length l1 l1 0 with
   | false => simp only [Bool.false_and, Bool.and_false]; exact ifn Bool.false_ne_true (sm _)
   | true =>
    refine ifp rfl ?_
    cases l4.any (impBad l1) with
    | true => simp only [Bool.not_true, Bool.false_and, Bool.and_false]; exact ifp trivial (sm _)
    | false =>
     refine ifn Bool.false_ne_true ?_
     cases l5.any (filtBad l1) with
     | true => simp only [Bool.not_true, Bool.false_and, Bool.and_false]; exact ifp trivial (sm _)
     | false =>
      refine ifn Bool.false_ne_true (bnd hra ?_)
      cases risB l0.length l2 l2.length 0 with
      | false => exact ifn Bool.false_ne_true (sm _)
      | true =>
       refine ifp rfl (bnd hrb ?_)
       simp only [Bool.not_false, Bool.true_and, Bool.and_true]
       exact sm _
 ·rw [netB_no l0 l1 l2 l3 l4 l5 hg]
  exact ifn hg (sm _)
end
theorem netB_sz {l0 : List ByteArray} {l1 : List S92} {l2 l3 : List Int} {l4 : List S95} {l5 : List S97} (h : netB l0 l1 l2 l3 l4 l5 = true) : 1 ≤ l0.length ∧ l0.length ≤ 4 ∧ l1.length ≤ 6 ∧ l3.length ≤ 2 := by
 unfold netB inB at h
 simp only [Bool.and_eq_true, decide_eq_true_eq] at h
 omega
theorem linksB_mem (n : Nat) (all : List S92) : ∀ (l : List S92) (i : Nat), linksB n all l i = true → ∀ x ∈ l, (0 ≤ x.f0 ∧ x.f0 ≤ (n : Int) - 1) ∧ (0 ≤ x.f1 ∧ x.f1 ≤ (n : Int) - 1)
 | [], i, h, x, hx => by cases hx
 | y :: r, i, h, x, hx => by
  rw [linksB, Bool.and_eq_true] at h
  rcases List.mem_cons.1 hx with e | hx
  ·subst e
   have := h.1
   unfold linkB routerB at this
   simp only [Bool.and_eq_true, decide_eq_true_eq] at this
   exact ⟨this.1, this.2.1⟩
  ·exact linksB_mem n all r (i + 1) h.2 x hx
theorem ris_ge (n : Nat) (l : List Int) : ∀ (d i : Nat), risB n l d i = true → (i = 0 ∨ (i : Int) - 1 ≤ l.getD (i - 1) 0) → ∀ j, i ≤ j → j < i + d → (j : Int) ≤ l.getD j 0 ∧ l.getD j 0 ≤ (n : Int) - 1
 | 0, i, _, _, j, h1, h2 => absurd h2 (by omega)
 | d + 1, i, h, hi, j, h1, h2 => by
  rw [risB, Bool.and_eq_true, Bool.and_eq_true] at h
  obtain ⟨⟨ha, hb⟩, hc⟩ := h
  unfold inB at ha
  simp only [Bool.and_eq_true, decide_eq_true_eq, Bool.not_eq_true', Bool.and_eq_false_iff, decide_eq_false_iff_not] at ha hb
  have hge : (i : Int) ≤ l.getD i 0 := by
   rcases hi with rfl | hi
   · exact ha.1
   · rcases hb with hb | hb
     · have : i = 0 := by omega
       subst this
       exact ha.1
     · omega
  rcases Nat.eq_or_lt_of_le h1 with e | hlt
  · subst e
    exact ⟨hge, ha.2⟩
  · exact ris_ge n l d (i + 1) hc (.inr (by rw [Nat.add_sub_cancel]; omega)) j hlt (by omega)
theorem ris_fit {n : Nat} {l : List Int} (h : risB n l l.length 0 = true) : l.length ≤ n ∧ ∀ x ∈ l, inN n x := by
 have hg := ris_ge n l l.length 0 h (.inl rfl)
 constructor
 · cases hl : l.length with
   | zero => omega
   | succ m => have := hg m (Nat.zero_le _) (by omega); omega
 · intro x hx
   obtain ⟨j, hj, e⟩ := List.getElem_of_mem hx
   have := hg j (Nat.zero_le _) (by omega)
   rw [List.getD_eq_getElem?_getD, List.getElem?_eq_getElem hj, Option.getD_some, e] at this
   exact ⟨by omega, by omega⟩
theorem nm_fit (all : List ByteArray) : ∀ (l : List ByteArray) (i : Nat), nmB all l i = true → ∀ x ∈ l, x.size ≤ 40
 | [], _, _, x, hx => by cases hx
 | y :: r, i, h, x, hx => by
  rw [nmB, Bool.and_eq_true, Bool.and_eq_true] at h
  rcases List.mem_cons.1 hx with e | hx
  · subst e
    have := h.1
    unfold nameB at this
    simp only [Bool.and_eq_true, decide_eq_true_eq] at this
    exact this.2
  · exact nm_fit all r (i + 1) h.2.2 x hx
theorem links_cost (n : Nat) (all : List S92) : ∀ (l : List S92) (i : Nat), linksB n all l i = true → ∀ x ∈ l, 1 ≤ x.f2 ∧ x.f2 ≤ 100
 | [], i, h, x, hx => by cases hx
 | y :: r, i, h, x, hx => by
  rw [linksB, Bool.and_eq_true] at h
  rcases List.mem_cons.1 hx with e | hx
  · subst e
    have := h.1
    unfold linkB inB at this
    simp only [Bool.and_eq_true, decide_eq_true_eq] at this
    exact this.2.2.2.2
  · exact links_cost n all r (i + 1) h.2 x hx
theorem linkI_in (n : Nat) (all : List S92) (h : linksB n all all 0 = true) (a b : Int) (hk : ¬ linkI all a b < 0) : inN n a ∧ inN n b := by
 have h1 := idxB_ge (joinB a b) all
 have h2 : all.any (joinB a b) = true := by rw [← h1]; exact decide_eq_true (by unfold linkI at hk; omega)
 obtain ⟨x, hx, hj⟩ := List.any_eq_true.1 h2
 obtain ⟨q1, q2⟩ := linksB_mem n all all 0 h x hx
 unfold joinB at hj
 simp only [Bool.or_eq_true, Bool.and_eq_true, beq_iff_eq] at hj
 unfold inN
 omega
theorem any_no {α : Type} {p : α → Bool} {l : List α} (h : (!(l.any p)) = true) : ∀ x ∈ l, p x = false := fun x hx => by
 cases hb : p x with
 | false => rfl
 | true => rw [List.any_eq_true.2 ⟨x, hx, hb⟩] at h; cases h
theorem net_fit {l0 : List ByteArray} {l1 : List S92} {l2 l3 : List Int} {l4 : List S95} {l5 : List S97} (h : netB l0 l1 l2 l3 l4 l5 = true) : NetFit l0 l1 l2 l3 l4 l5 := by
 have hz := netB_sz h
 unfold netB at h
 simp only [Bool.and_eq_true, decide_eq_true_eq] at h
 obtain ⟨⟨g0, g1, g4, g5⟩, r2, r3, g3, hnm, hl, hi, hf⟩ := h
 obtain ⟨n2, m2⟩ := ris_fit r2
 obtain ⟨n3, m3⟩ := ris_fit r3
 have hm := linksB_mem l0.length l1 l1 0 hl
 have hc := links_cost l0.length l1 l1 0 hl
 refine ⟨fun x hx => Nat.le_trans (nm_fit l0 l0 0 hnm x hx) (by decide), by omega, by omega, by omega, by omega, by omega, by omega, fun x hx => ?_, m2, m3, fun x hx => ?_, fun x hx => ?_⟩
 · have q := hm x hx
   have q2 := hc x hx
   unfold inN smallI
   omega
 · have q := any_no hi x hx
   unfold impBad importB inB at q
   simp only [Bool.or_eq_false_iff, Bool.not_eq_false', Bool.and_eq_true, decide_eq_true_eq, decide_eq_false_iff_not] at q
   obtain ⟨q1, q2, q3, q4⟩ := q
   obtain ⟨ia, ib⟩ := linkI_in l0.length l1 hl x.f0 x.f1 q1
   refine ⟨ia, ib, ⟨q2.1, by omega⟩, q3, ?_⟩
   unfold smallI
   split at q4 <;> omega
 · have q := any_no hf x hx
   unfold filtBad inB at q
   simp only [Bool.or_eq_false_iff, Bool.not_eq_false', Bool.and_eq_true, decide_eq_true_eq, decide_eq_false_iff_not] at q
   obtain ⟨q1, q2, q3⟩ := q
   obtain ⟨ia, ib⟩ := linkI_in l0.length l1 hl x.f0 x.f1 q1
   refine ⟨ia, ib, ?_, ?_⟩ <;> unfold smallI <;> omega
theorem ev_at {α : Type} {f : Nat → Option α} {r : α} (h : Ev f r) : ∃ n, ∀ k, n ≤ k → f k = some r := h
theorem FnExactNetText : laws_FnExactNetText.Pure := by
 intro l0 l1 l2 l3 l4 l5 w0 w1 w2 w3 w4 w5
 obtain ⟨b0, s0⟩ := w0
 obtain ⟨b1, s1⟩ := w1
 obtain ⟨b2, s2⟩ := w2
 obtain ⟨b3, s3⟩ := w3
 obtain ⟨b4, s4⟩ := w4
 obtain ⟨b5, s5⟩ := w5
 have hto := toNet_is l0 l1 l2 l3 l4 l5 (by omega) (by omega) (by omega) (by omega) (by omega) (by omega)
 have hs := specNet_is l0 (l1.map cvL) l2 l3 (l4.map cvI) (l5.map cvF) s0 (by omega) (by omega)
 have hi := implNet_is l0 (l1.map cvL) l2 l3 (l4.map cvI) (l5.map cvF) s0 (by omega) (by omega)
 have hlaw : Ev (fun k => laws_FnExactNetText.f k l0 l1 l2 l3 l4 l5) true := by
  refine evc (fun k => laws_FnExactNetText.f.eq_1 ..) ?_
  obtain ⟨v, hv, hle⟩ := szNet_is l0 l1 l2 l3 l4 l5 s0 (by omega) (by omega) (by omega) (by omega) (by omega) (by omega)
  refine bnd hv ?_
  by_cases h : v < 0
  · exact ifp h (sm _)
  refine ifn h ?_
  have c1 : (l1.map cvL).length ≤ 140737488351232 := by rw [List.length_map]; omega
  have c4 : (l4.map cvI).length ≤ 140737488351232 := by rw [List.length_map]; omega
  have c5 : (l5.map cvF).length ≤ 140737488351232 := by rw [List.length_map]; omega
  exact bnd hto (bnd hs (bnd hi (bnd (eqNet_self l0 (l1.map cvL) l2 l3 (l4.map cvI) (l5.map cvF) (by omega) c1 (by omega) (by omega) c4 c5) (ifp ⟨rfl, rfl⟩ (sm _)))))
 obtain ⟨n1, h1⟩ := ev_at hlaw
 obtain ⟨n2, h2⟩ := ev_at hto
 obtain ⟨n3, h3⟩ := ev_at hs
 refine ⟨n1 + n2 + n3, h1 _ (by omega), fun q0 q1 q2 q3 q4 q5 hq hn => ?_⟩
 have e := (h2 (n1 + n2 + n3) (by omega)).symm.trans hq
 injection e with e
 injection e with e0 e
 injection e with e1 e
 injection e with e2 e
 injection e with e3 e
 injection e with e4 e5
 subst e0 e1 e2 e3 e4 e5
 have e6 := (h3 (n1 + n2 + n3) (by omega)).symm.trans hn
 exact net_fit (Option.some.inj e6)
end Go.Proofs.YtgibacfgjmdjdaaDoor.Pure
end
