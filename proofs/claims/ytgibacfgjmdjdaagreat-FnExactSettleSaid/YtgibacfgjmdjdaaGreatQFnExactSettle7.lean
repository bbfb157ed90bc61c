/- FnExactSettle: for every input the law returns true. The texts that this program's session printed and proved for it, those that the proof uses, laid together. Conditions: the form's own reach alone. -/
import Derived.Test.YtgibacfgjmdjdaaGreatQFnExactSettle6
import Derived.Deep.Slices
import Derived.ChangeArms
import Derived.SizedLaws
import Derived.Test.YtgibacfgjmdjdaaGreatRows
import Derived.WalkKit
import Derived.ProofKit
import Derived.OpenShut
import Derived.ShutString
import Derived.ChangeOld
import Derived.Below
section
section
set_option linter.unusedVariables false
set_option linter.unusedSimpArgs false
namespace Go.Proofs.YtgibacfgjmdjdaaGreat.Reads
open Go.RowKit Go.ChangeShapes Go.WideShapes Go.Deep Go.Proofs.YtgibacfgjmdjdaaGreatW.PrintWords
def ReadsN (P : Program) (n : Nat) (t : TypeId) {α : Type} (d : Kd α) (wf : α → Prop) : Prop :=
 ∀ (H : Type) (enc : TypeId × Value → H) (w : World) (base : Nat) (spare : Nat → Bool) (held : Bool) (cs : List Value) (x : DataW H × List MemPlace),
  DataW.trod enc P w base spare held n t cs = some x → (x.1.weights P t).all (· ≤ reachBytes) = true → ∃ a : α, d.K w a cs ∧ wf a
def Reads (P : Program) (t : TypeId) {α : Type} (d : Kd α) (wf : α → Prop) : Prop := ∀ n, ReadsN P n t d wf
theorem wf_i64 {z : Int} (h : (Lit.int .i64 z).wf = true) : -9223372036854775808 ≤ z ∧ z ≤ 9223372036854775807 := by
 simp only [Lit.wf, Bool.and_eq_true, decide_eq_true_eq] at h
 exact h
def WFI (z : Int) : Prop := -9223372036854775808 ≤ z ∧ z ≤ 9223372036854775807
def WFS (s : ByteArray) : Prop := s.size ≤ 140737488351232
def WFL {α : Type} (b : Nat) (wf : α → Prop) (l : List α) : Prop := l.length * b ≤ 140737488351232 ∧ ∀ x ∈ l, wf x
theorem int {P : Program} {n : Nat} {t : TypeId} (ht : P.underlying t = some (.int .i64)) : ReadsN P n t (Kd.int .i64) WFI := by
 intro H enc w base spare held cs x h _
 obtain ⟨z, rfl, rfl, hw⟩ := DataW.trod_int ht h
 exact ⟨z, rfl, wf_i64 hw⟩
theorem bool {P : Program} {n : Nat} {t : TypeId} (ht : P.underlying t = some .bool) : ReadsN P n t Kd.bool (fun _ => True) := by
 intro H enc w base spare held cs x h _
 obtain ⟨z, rfl, rfl⟩ := DataW.trod_bool ht h
 exact ⟨z, rfl, trivial⟩
theorem string {P : Program} {n : Nat} {t : TypeId} (ht : P.underlying t = some .string) : ReadsN P n t Kd.string WFS := by
 intro H enc w base spare held cs x h hr
 obtain ⟨z, rfl, rfl, _⟩ := DataW.trod_string ht h
 refine ⟨z, rfl, ?_⟩
 simp [DataW.weights, reachBytes] at hr
 exact (show z.size ≤ 140737488351232 from of_decide_eq_true hr)
theorem all_of {H : Type} {P : Program} {e : TypeId} : ∀ {l : List (DataW H)}, (DataW.weightsAll P e l).all (· ≤ reachBytes) = true → ∀ d ∈ l, (d.weights P e).all (· ≤ reachBytes) = true
 | [], _, d, hd => by cases hd
 | y :: r, h, d, hd => by
  simp only [DataW.weightsAll, List.all_append, Bool.and_eq_true] at h
  rcases List.mem_cons.1 hd with rfl | hd
  ·exact h.1
  ·exact all_of h.2 d hd
theorem slice {P : Program} {n : Nat} {t e : TypeId} {α : Type} {d : Kd α} {wf : α → Prop} {b : Nat} (ht : P.underlying t = some (.slice e)) (hc : P.cellsOf e = d.sz) (hb : P.bytesOf e = b) (he : ∀ m, m < n → ReadsN P m e d wf) :
  ReadsN P n t (Kd.slice e d) (WFL b wf) := by
 intro H enc w base spare held cs x h hr
 cases n with
 | zero => simp [DataW.trod] at h
 | succ n =>
  have h' := h
  simp only [DataW.trod, ht] at h'
  match cs, h' with
  | [.slice none 0 0], h' =>
   refine ⟨[], ⟨none, 0, rfl, Nat.le_refl _, rfl, by simp, fun h => absurd h (Nat.lt_irrefl 0)⟩, by simp, fun x hx => by cases hx⟩
  | [.slice (some a) len cap], h' =>
   simp only at h'
   split at h'
   ·rename_i hcond
    obtain ⟨elems, hel, h2⟩ := Option.bind_eq_some_iff.1 h'
    obtain ⟨rest, hrest, rfl⟩ := Option.map_eq_some_iff.1 h2
    simp only [DataW.weights, ht, List.all_cons, List.all_append, Bool.and_eq_true, hb, List.length_map, decide_eq_true_eq] at hr
    have hlen : elems.length = len := by simpa using mapM_some_length hel
    have hget : ∀ i, i < len → ∃ y : α, wf y ∧ ∃ c, c.length = d.sz ∧ d.K w y c ∧ ∀ j u, c[j]? = some u → w.cell? (a.add (i * d.sz + j)) = some u := by
     intro i hi
     have h3 := mapM_some_get hel i i (by simp [hi])
     rw [List.getElem?_eq_getElem (by omega)] at h3
     obtain ⟨cs', hcs, htr⟩ := Option.bind_eq_some_iff.1 h3
     obtain ⟨y, hK, hw⟩ := he n (Nat.lt_succ_self n) H enc w base spare held cs' _ htr (all_of hr.2.1 _ (List.mem_map.2 ⟨elems[i]'(by omega), List.getElem_mem _, rfl⟩))
     obtain ⟨_, hcl, hat⟩ := World.cells?_some hcs
     rw [hc] at hcl hat
     refine ⟨y, hw, cs', hcl, hK, fun j u hj => ?_⟩
     have hjl : j < d.sz := by
      rw [← hcl]
      exact (List.getElem?_eq_some_iff.1 hj).1
     rw [← Deep.add_add, hat j hjl, hj]
    rcases Nat.eq_zero_or_pos len with hz | hz
    ·subst hz
     refine ⟨[], ⟨some a, cap, rfl, Nat.zero_le _, rfl, by simp, fun h => absurd h (Nat.lt_irrefl 0)⟩, by simp, fun x hx => by cases hx⟩
    have hinh : Inhabited α := ⟨(hget 0 hz).choose⟩
    obtain ⟨f, hf⟩ := choose_lt hget
    refine ⟨(List.range len).map f, ⟨some a, cap, ?_, ?_, ?_, ?_, ?_⟩, ?_, ?_⟩
    ·simp
    ·simpa using hcond.2.1
    ·simp
    ·have := hcond.2.2
     have := hcond.2.1
     simp [maxLen] at *
     omega
    ·intro _
     refine ⟨a, rfl, fun j p hj => ?_⟩
     have hjl : j < len := by
      have := (List.getElem?_eq_some_iff.1 hj).1
      simpa using this
     simp [hjl] at hj
     subst hj
     obtain ⟨_, c, h1, h2, h3⟩ := hf j hjl
     exact ⟨c, h1, h2, h3⟩
    ·have h4 := hr.1
     simp only [reachBytes] at h4
     have : len * b ≤ (elems.length + rest.length) * b := Nat.mul_le_mul_right _ (by omega)
     simp
     omega
    ·intro y hy
     obtain ⟨i, hi, rfl⟩ := List.mem_map.1 hy
     exact (hf i (by simpa using hi)).1
   ·cases h'
theorem intR {P : Program} {t : TypeId} (ht : P.underlying t = some (.int .i64)) : Reads P t (Kd.int .i64) WFI := fun _ => int ht
theorem boolR {P : Program} {t : TypeId} (ht : P.underlying t = some .bool) : Reads P t Kd.bool (fun _ => True) := fun _ => bool ht
theorem stringR {P : Program} {t : TypeId} (ht : P.underlying t = some .string) : Reads P t Kd.string WFS := fun _ => string ht
theorem sliceR {P : Program} {t e : TypeId} {α : Type} {d : Kd α} {wf : α → Prop} {b : Nat} (ht : P.underlying t = some (.slice e)) (hc : P.cellsOf e = d.sz) (hb : P.bytesOf e = b) (he : Reads P e d wf) : Reads P t (Kd.slice e d) (WFL b wf) :=
 fun _ => slice ht hc hb (fun m _ => he m)
def FieldsN (P : Program) (n : Nat) (fs : List Field) (off : Nat) {α : Type} (d : Kd α) (wf : α → Prop) : Prop :=
 ∀ (H : Type) (enc : TypeId × Value → H) (w : World) (base : Nat) (spare : Nat → Bool) (held : Bool) (cs : List Value) (xs : List (DataW H × List MemPlace)),
  (fs.mapM fun f => DataW.trod enc P w base spare held n f.type ((cs.drop f.offset).take (P.cellsOf f.type))) = some xs →
  (DataW.weightsEach P (fs.map (·.type)) (xs.map (·.1))).all (· ≤ reachBytes) = true → cs.length = off + d.sz → ∃ a : α, d.K w a (cs.drop off) ∧ wf a
theorem last {P : Program} {n : Nat} {f : Field} {off : Nat} {α : Type} {d : Kd α} {wf : α → Prop} (ho : f.offset = off) (hc : P.cellsOf f.type = d.sz) (h : ReadsN P n f.type d wf) : FieldsN P n [f] off d wf := by
 intro H enc w base spare held cs xs hm hr hl
 simp only [List.mapM_cons, List.mapM_nil, Option.bind_eq_bind, Option.bind_eq_some_iff, Option.pure_def, Option.some.injEq] at hm
 obtain ⟨y, hy, _, rfl, rfl⟩ := hm
 rw [ho, hc, List.take_of_length_le (by rw [List.length_drop]; omega)] at hy
 simp only [List.map_cons, List.map_nil, DataW.weightsEach, List.append_nil] at hr
 exact h H enc w base spare held _ _ hy hr
theorem more {P : Program} {n : Nat} {f : Field} {fs : List Field} {off : Nat} {α β : Type} {d : Kd α} {d' : Kd β} {wf : α → Prop} {wf' : β → Prop} (ho : f.offset = off) (hc : P.cellsOf f.type = d.sz)
  (h : ReadsN P n f.type d wf) (h' : FieldsN P n fs (off + d.sz) d' wf') : FieldsN P n (f :: fs) off (Kd.pair d d') (fun x => wf x.1 ∧ wf' x.2) := by
 intro H enc w base spare held cs xs hm hr hl
 simp only [List.mapM_cons, Option.bind_eq_bind, Option.bind_eq_some_iff, Option.pure_def, Option.some.injEq] at hm
 obtain ⟨y, hy, ys, hys, rfl⟩ := hm
 simp only [List.map_cons, DataW.weightsEach, List.all_append, Bool.and_eq_true] at hr
 have hl' : cs.length = off + (d.sz + d'.sz) := hl
 rw [ho, hc] at hy
 obtain ⟨a, hK, hw⟩ := h H enc w base spare held _ _ hy hr.1
 obtain ⟨b, hK', hw'⟩ := h' H enc w base spare held cs ys hys hr.2 (by omega)
 refine ⟨(a, b), ⟨_, _, ?_, hK, hK'⟩, hw, hw'⟩
 have := (List.take_append_drop d.sz (cs.drop off)).symm
 rwa [List.drop_drop] at this
theorem struct {P : Program} {n : Nat} {t : TypeId} {fs : Array Field} {α β : Type} {d : Kd α} {wf : α → Prop} (f : β → α) (g : α → β) (hfg : ∀ a, f (g a) = a) (ht : P.underlying t = some (.struct fs)) (hc : P.cellsOf t = d.sz)
  (h : ∀ m, m < n → FieldsN P m fs.toList 0 d wf) : ReadsN P n t (Kd.iso d f) (fun x => wf (f x)) := by
 intro H enc w base spare held cs x hx hr
 cases n with
 | zero => simp [DataW.trod] at hx
 | succ n =>
  simp only [DataW.trod, ht] at hx
  have hx' : cs.length = P.cellsOf t ∧ ∃ xs, (fs.toList.mapM fun f => DataW.trod enc P w base spare held n f.type ((cs.drop f.offset).take (P.cellsOf f.type))) = some xs ∧ (.agg (xs.map (·.1)), xs.flatMap (·.2)) = x := by
   split at hx <;> simp_all
  obtain ⟨hl, xs, hm, rfl⟩ := hx'
  simp only [DataW.weights, ht] at hr
  obtain ⟨a, hK, hw⟩ := h n (Nat.lt_succ_self n) H enc w base spare held cs xs hm hr (by rw [hl, hc]; omega)
  rw [List.drop_zero] at hK
  exact ⟨g a, by show d.K w (f (g a)) cs; rw [hfg]; exact hK, by show wf (f (g a)); rw [hfg]; exact hw⟩
theorem each_of {H : Type} {P : Program} : ∀ {ts : List TypeId} {ds : List (DataW H)} {j : Nat} {t : TypeId} {d : DataW H}, (DataW.weightsEach P ts ds).all (· ≤ reachBytes) = true → ts[j]? = some t → ds[j]? = some d → (d.weights P t).all (· ≤ reachBytes) = true
 | [], _, _, _, _, _, h, _ => by simp at h
 | _ :: _, [], _, _, _, _, _, h => by simp at h
 | t0 :: ts, d0 :: ds, 0, t, d, h, ht, hd => by
  simp only [List.getElem?_cons_zero, Option.some.injEq] at ht hd
  subst ht hd
  simp only [DataW.weightsEach, List.all_append, Bool.and_eq_true] at h
  exact h.1
 | t0 :: ts, d0 :: ds, j + 1, t, d, h, ht, hd => by
  simp only [DataW.weightsEach, List.all_append, Bool.and_eq_true] at h
  exact each_of (j := j) h.2 (by simpa using ht) (by simpa using hd)
theorem arg {H : Type} {enc : TypeId × Value → H} {P : Program} {W : World} {base : Nat} {spare : Nat → Bool} {held : Bool} {t : TypeId} {v : Value} {d : DataW H} {ps : List MemPlace} {ts : List TypeId} {ds : List (DataW H)} {j : Nat} {α : Type} {k : Kd α} {wf : α → Prop}
  (hk : Reads P t k wf) (hsz : (DataW.weightsEach P ts ds).all (· ≤ reachBytes) = true) (ht : ts[j]? = some t) (hd : ds[j]? = some d) (h : DataW.Trod enc P W base spare held t v d ps) : ∃ a : α, k.K W a v.cells.toList ∧ wf a := by
 obtain ⟨fuel, hf⟩ := h
 exact hk fuel H enc W base spare held _ _ hf (each_of hsz ht hd)
end Go.Proofs.YtgibacfgjmdjdaaGreat.Reads
end
section
set_option linter.unusedVariables false
namespace Go.Proofs.YtgibacfgjmdjdaaGreat.PFnExactIsStable
open Go.RowKit Go.Proofs.YtgibacfgjmdjdaaGreatW.PrintWords Go.Proofs.YtgibacfgjmdjdaaGreatW.PrintLast Go.Proofs.YtgibacfgjmdjdaaGreat
def wf107 (x : S107) : Prop := Reads.WFI x.f0 ∧ (Reads.WFI x.f1 ∧ (Reads.WFI x.f2))
def wf109 (x : S109) : Prop := Reads.WFI x.f0 ∧ (Reads.WFI x.f1 ∧ (Reads.WFI x.f2 ∧ (Reads.WFI x.f3 ∧ (Reads.WFI x.f4))))
def wf111 (x : S111) : Prop := Reads.WFI x.f0 ∧ (Reads.WFI x.f1 ∧ (Reads.WFI x.f2 ∧ (Reads.WFI x.f3)))
def laws_FnExactSettle.Pure : Prop := ∀ (l0_0 : List ByteArray) (l0_1 : List (S107)) (l0_2 : List Int) (l0_3 : List Int) (l0_4 : List (S109)) (l0_5 : List (S111)) (l1 : List Int) (l2 : List Bool) (a3 : Int), (Reads.WFL 16 Reads.WFS) l0_0 → (Reads.WFL 24 wf107) l0_1 → (Reads.WFL 8 Reads.WFI) l0_2 → (Reads.WFL 8 Reads.WFI) l0_3 → (Reads.WFL 40 wf109) l0_4 → (Reads.WFL 32 wf111) l0_5 → (Reads.WFL 8 Reads.WFI) l1 → (Reads.WFL 1 (fun _ : Bool => True)) l2 → Reads.WFI a3 → ∃ k, laws_FnExactSettle.f k l0_0 l0_1 l0_2 l0_3 l0_4 l0_5 l1 l2 a3 = some true
theorem rk107 : Reads.Reads Tryz.prog 85 k107 wf107 := fun _ => Reads.struct (fun x : S107 => (x.f0, x.f1, x.f2)) (fun p => ⟨p.1, p.2.1, p.2.2⟩) (fun _ => rfl) Tryz.underlying85 (by kernel_rfl) (fun m _ => (Reads.more rfl (by kernel_rfl) ((Reads.intR Tryz.underlying3) m) (Reads.more rfl (by kernel_rfl) ((Reads.intR Tryz.underlying3) m) (Reads.last rfl (by kernel_rfl) ((Reads.intR Tryz.underlying3) m)))))
theorem rk109 : Reads.Reads Tryz.prog 89 k109 wf109 := fun _ => Reads.struct (fun x : S109 => (x.f0, x.f1, x.f2, x.f3, x.f4)) (fun p => ⟨p.1, p.2.1, p.2.2.1, p.2.2.2.1, p.2.2.2.2⟩) (fun _ => rfl) Tryz.underlying89 (by kernel_rfl) (fun m _ => (Reads.more rfl (by kernel_rfl) ((Reads.intR Tryz.underlying3) m) (Reads.more rfl (by kernel_rfl) ((Reads.intR Tryz.underlying3) m) (Reads.more rfl (by kernel_rfl) ((Reads.intR Tryz.underlying3) m) (Reads.more rfl (by kernel_rfl) ((Reads.intR Tryz.underlying3) m) (Reads.last rfl (by kernel_rfl) ((Reads.intR Tryz.underlying3) m)))))))
theorem rk111 : Reads.Reads Tryz.prog 93 k111 wf111 := fun _ => Reads.struct (fun x : S111 => (x.f0, x.f1, x.f2, x.f3)) (fun p => ⟨p.1, p.2.1, p.2.2.1, p.2.2.2⟩) (fun _ => rfl) Tryz.underlying93 (by kernel_rfl) (fun m _ => (Reads.more rfl (by kernel_rfl) ((Reads.intR Tryz.underlying3) m) (Reads.more rfl (by kernel_rfl) ((Reads.intR Tryz.underlying3) m) (Reads.more rfl (by kernel_rfl) ((Reads.intR Tryz.underlying3) m) (Reads.last rfl (by kernel_rfl) ((Reads.intR Tryz.underlying3) m))))))
end Go.Proofs.YtgibacfgjmdjdaaGreat.PFnExactIsStable
end
section
set_option linter.unusedVariables false
set_option linter.unusedSimpArgs false
namespace Go.Proofs.YtgibacfgjmdjdaaGreat.Plain
open Go.RowKit Go.Proofs.YtgibacfgjmdjdaaGreatW.PrintWords
section
variable {α β : Type}
theorem ifp {c : Prop} [Decidable c] {f g : Nat → Option α} {r : α} (h : c) (k : Ev f r) : Ev (fun n => if c then f n else g n) r := by
  obtain ⟨K, hK⟩ := k
  exact ⟨K, fun n hn => by simp only [if_pos h]; exact hK n hn⟩
theorem ifn {c : Prop} [Decidable c] {f g : Nat → Option α} {r : α} (h : ¬ c) (k : Ev g r) : Ev (fun n => if c then f n else g n) r := by
  obtain ⟨K, hK⟩ := k
  exact ⟨K, fun n hn => by simp only [if_neg h]; exact hK n hn⟩
theorem bnd {g : Nat → Option α} {f : Nat → α → Option β} {a : α} {r : β} (h : Ev g a) (k : Ev (fun n => f n a) r) : Ev (fun n => (g n).bind (f n)) r := Ev.bind h k
theorem bnd0 {g : Option α} {f : Nat → α → Option β} {a : α} {r : β} (h : g = some a) (k : Ev (fun n => f n a) r) : Ev (fun n => g.bind (f n)) r := by
  obtain ⟨K, hK⟩ := k
  exact ⟨K, fun n hn => by rw [h]; exact hK n hn⟩
theorem stp {g f : Nat → Option α} {r : α} (h : ∀ k, g (k + 1) = f k) (k : Ev f r) : Ev g r := Ev.step h k
theorem evc {g f : Nat → Option α} {r : α} (h : ∀ k, g k = f k) (k : Ev f r) : Ev g r := Ev.congr h k
theorem sm (r : α) : Ev (fun _ => some r) r := Ev.now r
theorem one {g : Option α} {r : α} (h : g = some r) : Ev (fun _ => g) r := ⟨0, fun _ _ => h⟩
end
theorem up {i n : Int} (h0 : 0 ≤ i) (h : i < n) (hn : n ≤ 9223372036854775807) : wrap64 (i + 1) = i + 1 := by
  unfold wrap64
  omega
theorem w64 {x : Int} (h0 : -9223372036854775808 ≤ x) (h : x ≤ 9223372036854775807) : wrap64 x = x := by
  unfold wrap64
  omega
theorem set_take {α β : Type} (f : α → β) (xs : List α) (out : List β) (i : Nat) (x : α) (hx : xs[i]? = some x) (hl : out.length = xs.length) (h : out.take i = (xs.take i).map f) :
    (out.set i (f x)).take (i + 1) = (xs.take (i + 1)).map f := by
  have hi : i < xs.length := (List.getElem?_eq_some_iff.1 hx).1
  rw [List.take_succ_eq_append_getElem (by simp; omega), List.take_succ_eq_append_getElem hi, List.map_append, List.map_singleton, ← h]
  congr 1
  · rw [List.take_set]
    apply List.set_eq_of_length_le
    simp
    omega
  · rw [List.getElem_set_self]
    rw [(List.getElem?_eq_some_iff.1 hx).2]
theorem copy {α β : Type} (f : α → β) (xs : List α) (L : Int → List β → Nat → Option (List β))
    (hend : ∀ out, Ev (L (xs.length : Int) out) out)
    (hstep : ∀ (i : Nat) (out : List β) (r : List β) (x : α), xs[i]? = some x → out.length = xs.length → Ev (L ((i : Int) + 1) (out.set i (f x))) r → Ev (L (i : Int) out) r) :
    ∀ out, out.length = xs.length → Ev (L 0 out) (xs.map f) := by
  have key : ∀ (d i : Nat) (out : List β), i + d = xs.length → out.length = xs.length → out.take i = (xs.take i).map f → Ev (L (i : Int) out) (xs.map f) := by
    intro d
    induction d with
    | zero =>
      intro i out hd hl ht
      have hi : i = xs.length := by omega
      subst hi
      rw [List.take_of_length_le (by omega), List.take_of_length_le (by omega)] at ht
      subst ht
      exact hend _
    | succ d ih =>
      intro i out hd hl ht
      have hi : i < xs.length := by omega
      have hx : xs[i]? = some xs[i] := List.getElem?_eq_getElem hi
      refine hstep i out _ _ hx hl ?_
      have := ih (i + 1) (out.set i (f xs[i])) (by omega) (by simpa using hl) (set_take f xs out i _ hx hl ht)
      rwa [show ((i + 1 : Nat) : Int) = (i : Int) + 1 by omega] at this
  intro out hl
  have := key xs.length 0 out (by omega) hl (by simp)
  simpa using this
theorem same {α : Type} (xs : List α) (L : Int → Nat → Option Bool)
    (hend : Ev (L (xs.length : Int)) true)
    (hstep : ∀ (i : Nat) (x : α), xs[i]? = some x → Ev (L ((i : Int) + 1)) true → Ev (L (i : Int)) true) : Ev (L 0) true := by
  have key : ∀ (d i : Nat), i + d = xs.length → Ev (L (i : Int)) true := by
    intro d
    induction d with
    | zero =>
      intro i hd
      have hi : i = xs.length := by omega
      subst hi
      exact hend
    | succ d ih =>
      intro i hd
      have hi : i < xs.length := by omega
      refine hstep i _ (List.getElem?_eq_getElem hi) ?_
      have := ih (i + 1) (by omega)
      rwa [show ((i + 1 : Nat) : Int) = (i : Int) + 1 by omega] at this
  simpa using key xs.length 0 (by omega)
theorem getD_some {α : Type} {xs : List α} {i : Nat} {x d : α} (h : xs[i]? = some x) : xs.getD ((i : Int).toNat) d = x := by
  simp [List.getD, h]
end Go.Proofs.YtgibacfgjmdjdaaGreat.Plain
end
section
set_option linter.unusedVariables false
set_option linter.unusedSimpArgs false
namespace Go.Proofs.YtgibacfgjmdjdaaGreat.Pure
open Go.RowKit Go.Proofs.YtgibacfgjmdjdaaGreat Go.Proofs.YtgibacfgjmdjdaaGreat.PFnExactIsStable Go.Proofs.YtgibacfgjmdjdaaGreatW.PrintWords Go.Proofs.YtgibacfgjmdjdaaGreatW.PrintLast Go.Proofs.YtgibacfgjmdjdaaGreat.Plain
theorem toI_is (l : List Int) (hl : l.length ≤ 35184372088832) : Ev (fun k => laws_toIntS.f k l) l := by
 refine evc (fun k => laws_toIntS.f.eq_1 ..) (ifp (by omega) (ifp (by omega) ?_))
 have := copy (fun x : Int => x) l (fun i out k => laws_toIntS.l0 k l out i) ?_ ?_ (List.replicate (l.length : Int).toNat 0) (by simp)
 ·simpa using this
 ·intro out
  exact stp (fun k => laws_toIntS.l0.eq_2 ..) (ifn (by omega) (sm _))
 ·intro i out r x hx hlen hk
  have hi : i < l.length := (List.getElem?_eq_some_iff.1 hx).1
  refine stp (fun k => laws_toIntS.l0.eq_2 ..) (ifp (by omega) (ifp (by omega) (ifp (by omega) ?_)))
  rw [show rd l (i : Int) = x from getD_some hx, up (by omega) (by omega : (i : Int) < (l.length : Int)) (by omega), Int.toNat_natCast]
  exact hk
theorem eqI_self (l : List Int) (hl : l.length ≤ 140737488351232) : Ev (fun k => laws_eqIntS.f k l l) true := by
 refine evc (fun k => laws_eqIntS.f.eq_1 ..) (ifp rfl ?_)
 refine same l (fun i k => laws_eqIntS.l0 k l l i) ?_ ?_
 ·exact stp (fun k => laws_eqIntS.l0.eq_2 ..) (ifn (by omega) (sm _))
 ·intro i x hx hk
  have hi : i < l.length := (List.getElem?_eq_some_iff.1 hx).1
  refine stp (fun k => laws_eqIntS.l0.eq_2 ..) (ifp (by omega) (ifp (by omega) (ifp (by omega) (ifp rfl ?_))))
  rw [up (by omega) (by omega : (i : Int) < (l.length : Int)) (by omega)]
  exact hk
theorem toB_is (l : List Bool) (hl : l.length ≤ 281474976710656) : Ev (fun k => laws_toBoolS.f k l) l := by
 refine evc (fun k => laws_toBoolS.f.eq_1 ..) (ifp (by omega) (ifp (by omega) ?_))
 have := copy (fun x : Bool => x) l (fun i out k => laws_toBoolS.l0 k l out i) ?_ ?_ (List.replicate (l.length : Int).toNat false) (by simp)
 ·simpa using this
 ·intro out
  exact stp (fun k => laws_toBoolS.l0.eq_2 ..) (ifn (by omega) (sm _))
 ·intro i out r x hx hlen hk
  have hi : i < l.length := (List.getElem?_eq_some_iff.1 hx).1
  refine stp (fun k => laws_toBoolS.l0.eq_2 ..) (ifp (by omega) (ifp (by omega) (ifp (by omega) ?_)))
  rw [show rdOf false l (i : Int) = x from getD_some hx, up (by omega) (by omega : (i : Int) < (l.length : Int)) (by omega), Int.toNat_natCast]
  exact hk
theorem eqB_self (l : List Bool) (hl : l.length ≤ 281474976710656) : Ev (fun k => laws_eqBoolS.f k l l) true := by
 refine evc (fun k => laws_eqBoolS.f.eq_1 ..) (ifp rfl ?_)
 refine same l (fun i k => laws_eqBoolS.l0 k l l i) ?_ ?_
 ·exact stp (fun k => laws_eqBoolS.l0.eq_2 ..) (ifn (by omega) (sm _))
 ·intro i x hx hk
  have hi : i < l.length := (List.getElem?_eq_some_iff.1 hx).1
  refine stp (fun k => laws_eqBoolS.l0.eq_2 ..) (ifp (by omega) (ifp (by omega) (ifp (by omega) (ifn (by simp) ?_))))
  rw [up (by omega) (by omega : (i : Int) < (l.length : Int)) (by omega)]
  exact hk
theorem szStr_is (l : List ByteArray) (hs : ∀ x ∈ l, x.size ≤ 140737488351232) (hl : l.length ≤ 140737488351232) (a : Int) (h0 : 0 ≤ a) (h1 : a ≤ 1048576) : ∃ v, Ev (fun k => laws_szStringS.f k l a) v ∧ v ≤ a := by
 have key : ∀ (d i : Nat) (a : Int), i + d = l.length → 0 ≤ a → a ≤ 1048576 → ∃ v, Ev (fun k => laws_szStringS.l0 k l a (i : Int)) v ∧ v ≤ a := by
  intro d
  induction d with
  | zero =>
   intro i a hd h0 h1
   exact ⟨a, stp (fun k => laws_szStringS.l0.eq_2 ..) (ifn (by omega) (sm _)), Int.le_refl _⟩
  | succ d ih =>
   intro i a hd h0 h1
   have hi : i < l.length := by omega
   have hsz := hs l[i] (List.getElem_mem hi)
   have hr : rdOf ByteArray.empty l (i : Int) = l[i] := getD_some (List.getElem?_eq_getElem hi)
   by_cases hn : a - (l[i].size : Int) < 0
   ·refine ⟨-1, stp (fun k => laws_szStringS.l0.eq_2 ..) (ifp (by omega) (ifp (by omega) (ifp ?_ (sm _)))), by omega⟩
    rw [hr, w64 (by omega) (by omega)]; exact hn
   ·obtain ⟨v, hv, hle⟩ := ih (i + 1) (a - l[i].size) (by omega) (by omega) (by omega)
    refine ⟨v, stp (fun k => laws_szStringS.l0.eq_2 ..) (ifp (by omega) (ifp (by omega) (ifn ?_ ?_))), by omega⟩
    ·rw [hr, w64 (by omega) (by omega)]; exact hn
    ·rw [hr, w64 (by omega) (by omega), up (by omega) (by omega : (i : Int) < (l.length : Int)) (by omega)]
     exact hv
 by_cases hn : a - (l.length : Int) < 0
 ·refine ⟨-1, evc (fun k => laws_szStringS.f.eq_1 ..) (ifp ?_ (sm _)), by omega⟩
  rw [w64 (by omega) (by omega)]; exact hn
 ·obtain ⟨v, hv, hle⟩ := key l.length 0 (a - l.length) (by omega) (by omega) (by omega)
  refine ⟨v, evc (fun k => laws_szStringS.f.eq_1 ..) (ifn ?_ ?_), by omega⟩
  ·rw [w64 (by omega) (by omega)]; exact hn
  ·rw [w64 (by omega) (by omega)]; exact hv
theorem szOf {α : Type} {f : List α → Int → Option Int} (hf : ∀ l a, f l a = if (wrap64 (a - (l.length : Int))) < 0 then (some (-1)) else (some (wrap64 (a - (l.length : Int))))) (l : List α) (hl : l.length ≤ 140737488351232) (a : Int) (h0 : 0 ≤ a) (h1 : a ≤ 1048576) : ∃ v, f l a = some v ∧ v ≤ a := by
 rw [hf, w64 (by omega) (by omega)]
 by_cases hn : a - (l.length : Int) < 0
 ·exact ⟨-1, by rw [if_pos hn], by omega⟩
 ·exact ⟨_, by rw [if_neg hn], by omega⟩
theorem szNet_is (l0 : List ByteArray) (l1 : List S107) (l2 l3 : List Int) (l4 : List S109) (l5 : List S111) (hs : ∀ x ∈ l0, x.size ≤ 140737488351232) (h0 : l0.length ≤ 140737488351232) (h1 : l1.length ≤ 140737488351232) (h2 : l2.length ≤ 140737488351232) (h3 : l3.length ≤ 140737488351232) (h4 : l4.length ≤ 140737488351232) (h5 : l5.length ≤ 140737488351232) : ∃ v, Ev (fun k => laws_szNet.f k l0 l1 l2 l3 l4 l5 1048576) v ∧ v ≤ 1048576 := by
 obtain ⟨v0, e0, b0⟩ := szStr_is l0 hs h0 1048576 (by omega) (by omega)
 by_cases n0 : v0 < 0
 ·exact ⟨-1, evc (fun k => laws_szNet.f.eq_1 ..) (bnd e0 (ifp n0 (sm _))), by omega⟩
 obtain ⟨v1, e1, b1⟩ := szOf (f := laws_szLinkS.f) (fun _ _ => rfl) l1 h1 v0 (by omega) (by omega)
 by_cases n1 : v1 < 0
 ·exact ⟨-1, evc (fun k => laws_szNet.f.eq_1 ..) (bnd e0 (ifn n0 (bnd0 e1 (ifp n1 (sm _))))), by omega⟩
 obtain ⟨v2, e2, b2⟩ := szOf (f := laws_szIntS.f) (fun _ _ => rfl) l2 h2 v1 (by omega) (by omega)
 by_cases n2 : v2 < 0
 ·exact ⟨-1, evc (fun k => laws_szNet.f.eq_1 ..) (bnd e0 (ifn n0 (bnd0 e1 (ifn n1 (bnd0 e2 (ifp n2 (sm _))))))), by omega⟩
 obtain ⟨v3, e3, b3⟩ := szOf (f := laws_szIntS.f) (fun _ _ => rfl) l3 h3 v2 (by omega) (by omega)
 by_cases n3 : v3 < 0
 ·exact ⟨-1, evc (fun k => laws_szNet.f.eq_1 ..) (bnd e0 (ifn n0 (bnd0 e1 (ifn n1 (bnd0 e2 (ifn n2 (bnd0 e3 (ifp n3 (sm _))))))))), by omega⟩
 obtain ⟨v4, e4, b4⟩ := szOf (f := laws_szImportS.f) (fun _ _ => rfl) l4 h4 v3 (by omega) (by omega)
 by_cases n4 : v4 < 0
 ·exact ⟨-1, evc (fun k => laws_szNet.f.eq_1 ..) (bnd e0 (ifn n0 (bnd0 e1 (ifn n1 (bnd0 e2 (ifn n2 (bnd0 e3 (ifn n3 (bnd0 e4 (ifp n4 (sm _))))))))))), by omega⟩
 obtain ⟨v5, e5, b5⟩ := szOf (f := laws_szFilterS.f) (fun _ _ => rfl) l5 h5 v4 (by omega) (by omega)
 by_cases n5 : v5 < 0
 ·exact ⟨-1, evc (fun k => laws_szNet.f.eq_1 ..) (bnd e0 (ifn n0 (bnd0 e1 (ifn n1 (bnd0 e2 (ifn n2 (bnd0 e3 (ifn n3 (bnd0 e4 (ifn n4 (bnd0 e5 (ifp n5 (sm _))))))))))))), by omega⟩
 exact ⟨v5, evc (fun k => laws_szNet.f.eq_1 ..) (bnd e0 (ifn n0 (bnd0 e1 (ifn n1 (bnd0 e2 (ifn n2 (bnd0 e3 (ifn n3 (bnd0 e4 (ifn n4 (bnd0 e5 (ifn n5 (sm _))))))))))))), by omega⟩
theorem toStr_is (l : List ByteArray) (hl : l.length ≤ 8796093021952) : Ev (fun k => laws_toStringS.f k l) l := by
 refine evc (fun k => laws_toStringS.f.eq_1 ..) (ifp (by omega) (ifp (by omega) ?_))
 have := copy (fun x : ByteArray => x) l (fun i out k => laws_toStringS.l0 k l out i) ?_ ?_ (List.replicate (l.length : Int).toNat (⟨#[]⟩ : ByteArray)) (by simp)
 ·simpa using this
 ·intro out
  exact stp (fun k => laws_toStringS.l0.eq_2 ..) (ifn (by omega) (sm _))
 ·intro i out r x hx hlen hk
  have hi : i < l.length := (List.getElem?_eq_some_iff.1 hx).1
  refine stp (fun k => laws_toStringS.l0.eq_2 ..) (ifp (by omega) (ifp (by omega) (ifp (by omega) ?_)))
  rw [show rdOf ByteArray.empty l (i : Int) = x from getD_some hx, up (by omega) (by omega : (i : Int) < (l.length : Int)) (by omega), Int.toNat_natCast]
  exact hk
def cvL (x : S107) : S92 := ⟨x.f0, x.f1, x.f2⟩
def cvI (x : S109) : S95 := ⟨x.f0, x.f1, x.f2, x.f3, x.f4⟩
def cvF (x : S111) : S97 := ⟨x.f0, x.f1, x.f2, x.f3⟩
theorem toLink_is (l : List S107) (hl : l.length ≤ 5864062014634) : Ev (fun k => laws_toLinkS.f k l) (l.map cvL) := by
 refine evc (fun k => laws_toLinkS.f.eq_1 ..) (ifp (by omega) (ifp (by omega) ?_))
 refine copy cvL l (fun i out k => laws_toLinkS.l0 k l out i) ?_ ?_ (List.replicate (l.length : Int).toNat z92) (by simp)
 ·intro out
  exact stp (fun k => laws_toLinkS.l0.eq_2 ..) (ifn (by omega) (sm _))
 ·intro i out r x hx hlen hk
  have hi : i < l.length := (List.getElem?_eq_some_iff.1 hx).1
  refine stp (fun k => laws_toLinkS.l0.eq_2 ..) (ifp (by omega) (ifp (by omega) (bnd0 rfl (ifp (by omega) ?_))))
  rw [show rd_T107 l (i : Int) = x from getD_some hx, up (by omega) (by omega : (i : Int) < (l.length : Int)) (by omega), Int.toNat_natCast]
  exact hk
theorem toImport_is (l : List S109) (hl : l.length ≤ 3518437208780) : Ev (fun k => laws_toImportS.f k l) (l.map cvI) := by
 refine evc (fun k => laws_toImportS.f.eq_1 ..) (ifp (by omega) (ifp (by omega) ?_))
 refine copy cvI l (fun i out k => laws_toImportS.l0 k l out i) ?_ ?_ (List.replicate (l.length : Int).toNat z95) (by simp)
 ·intro out
  exact stp (fun k => laws_toImportS.l0.eq_2 ..) (ifn (by omega) (sm _))
 ·intro i out r x hx hlen hk
  have hi : i < l.length := (List.getElem?_eq_some_iff.1 hx).1
  refine stp (fun k => laws_toImportS.l0.eq_2 ..) (ifp (by omega) (ifp (by omega) (bnd0 rfl (ifp (by omega) ?_))))
  rw [show rd_T109 l (i : Int) = x from getD_some hx, up (by omega) (by omega : (i : Int) < (l.length : Int)) (by omega), Int.toNat_natCast]
  exact hk
theorem toFilter_is (l : List S111) (hl : l.length ≤ 4398046510976) : Ev (fun k => laws_toFilterS.f k l) (l.map cvF) := by
 refine evc (fun k => laws_toFilterS.f.eq_1 ..) (ifp (by omega) (ifp (by omega) ?_))
 refine copy cvF l (fun i out k => laws_toFilterS.l0 k l out i) ?_ ?_ (List.replicate (l.length : Int).toNat z97) (by simp)
 ·intro out
  exact stp (fun k => laws_toFilterS.l0.eq_2 ..) (ifn (by omega) (sm _))
 ·intro i out r x hx hlen hk
  have hi : i < l.length := (List.getElem?_eq_some_iff.1 hx).1
  refine stp (fun k => laws_toFilterS.l0.eq_2 ..) (ifp (by omega) (ifp (by omega) (bnd0 rfl (ifp (by omega) ?_))))
  rw [show rd_T111 l (i : Int) = x from getD_some hx, up (by omega) (by omega : (i : Int) < (l.length : Int)) (by omega), Int.toNat_natCast]
  exact hk
theorem toNet_is (l0 : List ByteArray) (l1 : List S107) (l2 l3 : List Int) (l4 : List S109) (l5 : List S111) (h0 : l0.length ≤ 8796093021952) (h1 : l1.length ≤ 5864062014634) (h2 : l2.length ≤ 17592186043904) (h3 : l3.length ≤ 17592186043904) (h4 : l4.length ≤ 3518437208780) (h5 : l5.length ≤ 4398046510976) : Ev (fun k => laws_toNet.f k l0 l1 l2 l3 l4 l5) (l0, l1.map cvL, l2, l3, l4.map cvI, l5.map cvF) :=
 evc (fun k => laws_toNet.f.eq_1 ..) (bnd (toStr_is l0 h0) (bnd (toLink_is l1 h1) (bnd (toI_is l2 (by omega)) (bnd (toI_is l3 (by omega)) (bnd (toImport_is l4 h4) (bnd (toFilter_is l5 h5) (sm _)))))))
theorem eqStr_self (l : List ByteArray) (hl : l.length ≤ 140737488351232) : Ev (fun k => laws_eqStringS.f k l l) true := by
 refine evc (fun k => laws_eqStringS.f.eq_1 ..) (ifp rfl ?_)
 refine same l (fun i k => laws_eqStringS.l0 k l l i) ?_ ?_
 ·exact stp (fun k => laws_eqStringS.l0.eq_2 ..) (ifn (by omega) (sm _))
 ·intro i x hx hk
  have hi : i < l.length := (List.getElem?_eq_some_iff.1 hx).1
  refine stp (fun k => laws_eqStringS.l0.eq_2 ..) (ifp (by omega) (ifp (by omega) (ifp (by omega) (ifp rfl ?_))))
  rw [up (by omega) (by omega : (i : Int) < (l.length : Int)) (by omega)]
  exact hk
theorem eqLink_self (l : List S92) (hl : l.length ≤ 140737488351232) : Ev (fun k => laws_eqLinkS.f k l l) true := by
 refine evc (fun k => laws_eqLinkS.f.eq_1 ..) (ifp rfl ?_)
 refine same l (fun i k => laws_eqLinkS.l0 k l l i) ?_ ?_
 ·exact stp (fun k => laws_eqLinkS.l0.eq_2 ..) (ifn (by omega) (sm _))
 ·intro i x hx hk
  have hi : i < l.length := (List.getElem?_eq_some_iff.1 hx).1
  refine stp (fun k => laws_eqLinkS.l0.eq_2 ..) (ifp (by omega) (ifp (by omega) (ifp (by omega) (bnd0 (a := true) (by unfold laws_eqLink.f; simp) (ifp rfl ?_)))))
  rw [up (by omega) (by omega : (i : Int) < (l.length : Int)) (by omega)]
  exact hk
theorem eqImport_self (l : List S95) (hl : l.length ≤ 140737488351232) : Ev (fun k => laws_eqImportS.f k l l) true := by
 refine evc (fun k => laws_eqImportS.f.eq_1 ..) (ifp rfl ?_)
 refine same l (fun i k => laws_eqImportS.l0 k l l i) ?_ ?_
 ·exact stp (fun k => laws_eqImportS.l0.eq_2 ..) (ifn (by omega) (sm _))
 ·intro i x hx hk
  have hi : i < l.length := (List.getElem?_eq_some_iff.1 hx).1
  refine stp (fun k => laws_eqImportS.l0.eq_2 ..) (ifp (by omega) (ifp (by omega) (ifp (by omega) (bnd0 (a := true) (by unfold laws_eqImport.f; simp) (ifp rfl ?_)))))
  rw [up (by omega) (by omega : (i : Int) < (l.length : Int)) (by omega)]
  exact hk
theorem eqFilter_self (l : List S97) (hl : l.length ≤ 140737488351232) : Ev (fun k => laws_eqFilterS.f k l l) true := by
 refine evc (fun k => laws_eqFilterS.f.eq_1 ..) (ifp rfl ?_)
 refine same l (fun i k => laws_eqFilterS.l0 k l l i) ?_ ?_
 ·exact stp (fun k => laws_eqFilterS.l0.eq_2 ..) (ifn (by omega) (sm _))
 ·intro i x hx hk
  have hi : i < l.length := (List.getElem?_eq_some_iff.1 hx).1
  refine stp (fun k => laws_eqFilterS.l0.eq_2 ..) (ifp (by omega) (ifp (by omega) (ifp (by omega) (bnd0 (a := true) (by unfold laws_eqFilter.f; simp) (ifp rfl ?_)))))
  rw [up (by omega) (by omega : (i : Int) < (l.length : Int)) (by omega)]
  exact hk
theorem eqNet_self (l0 : List ByteArray) (l1 : List S92) (l2 l3 : List Int) (l4 : List S95) (l5 : List S97) (h0 : l0.length ≤ 140737488351232) (h1 : l1.length ≤ 140737488351232) (h2 : l2.length ≤ 140737488351232) (h3 : l3.length ≤ 140737488351232) (h4 : l4.length ≤ 140737488351232) (h5 : l5.length ≤ 140737488351232) : Ev (fun k => laws_eqNet.f k l0 l1 l2 l3 l4 l5 l0 l1 l2 l3 l4 l5) true :=
 evc (fun k => laws_eqNet.f.eq_1 ..) (bnd (eqStr_self l0 h0) (bnd (eqLink_self l1 h1) (bnd (eqI_self l2 h2) (bnd (eqI_self l3 h3) (bnd (eqImport_self l4 h4) (bnd (eqFilter_self l5 h5) (ifp ⟨rfl, rfl, rfl, rfl, rfl, rfl⟩ (sm _))))))))
theorem findL {α : Type} (xs : List α) (p : α → Bool) (L : Int → Nat → Option Int) (hend : Ev (L (xs.length : Int)) (-1))
  (hstep : ∀ (i : Nat) (x : α), xs[i]? = some x → (p x = true → Ev (L (i : Int)) (i : Int)) ∧ (p x = false → ∀ r, Ev (L ((i : Int) + 1)) r → Ev (L (i : Int)) r)) : Ev (L 0) (idxB p xs 0) := by
 have key : ∀ (d i : Nat), i + d = xs.length → Ev (L (i : Int)) (idxB p (xs.drop i) i) := by
  intro d
  induction d with
  | zero =>
   intro i hd
   obtain rfl : i = xs.length := by omega
   rw [List.drop_length]
   exact hend
  | succ d ih =>
   intro i hd
   have hi : i < xs.length := by omega
   obtain ⟨h1, h2⟩ := hstep i xs[i] (List.getElem?_eq_getElem hi)
   rw [List.drop_eq_getElem_cons hi, idxB]
   cases hp : p xs[i] with
   | true => rw [if_pos rfl]; exact h1 hp
   | false =>
    rw [if_neg Bool.false_ne_true]
    have := ih (i + 1) (by omega)
    exact h2 hp _ (by rwa [show ((i + 1 : Nat) : Int) = (i : Int) + 1 by omega] at this)
 have := key xs.length 0 (by omega)
 rwa [List.drop_zero] at this
theorem link_is (l : List S92) (hl : l.length ≤ 140737488351232) (a b : Int) : Ev (fun k => spec_l06Link.f k l a b) (linkI l a b) := by
 refine evc (fun k => spec_l06Link.f.eq_1 ..) ?_
 refine findL l (joinB a b) (fun i k => spec_l06Link.l0 k l a b i) ?_ ?_
 ·exact stp (fun k => spec_l06Link.l0.eq_2 ..) (ifn (by omega) (sm _))
 ·intro i x hx
  have hi : i < l.length := (List.getElem?_eq_some_iff.1 hx).1
  have hr : rd_T92 l (i : Int) = x := getD_some hx
  have hu := up (i := (i : Int)) (by omega) (by omega : (i : Int) < (l.length : Int)) (by omega)
  constructor
  ·intro hp
   refine stp (fun k => spec_l06Link.l0.eq_2 ..) (ifp (by omega) (ifp (by omega) ?_))
   rw [hr]
   unfold joinB at hp
   by_cases h1 : x.f0 = a
   ·refine ifp h1 ?_
    by_cases h2 : x.f1 = b
    ·exact ifp h2 (sm _)
    ·refine ifn h2 ?_
     by_cases h3 : x.f0 = b
     ·refine ifp h3 ?_
      by_cases h4 : x.f1 = a
      ·exact ifp h4 (sm _)
      ·simp [h2, h4] at hp
     ·simp [h2, h3] at hp
   ·refine ifn h1 ?_
    by_cases h3 : x.f0 = b
    ·refine ifp h3 ?_
     by_cases h4 : x.f1 = a
     ·exact ifp h4 (sm _)
     ·simp [h1, h4] at hp
    ·simp [h1, h3] at hp
  ·intro hp r hk
   refine stp (fun k => spec_l06Link.l0.eq_2 ..) (ifp (by omega) (ifp (by omega) ?_))
   rw [hr, hu]
   unfold joinB at hp
   by_cases h1 : x.f0 = a
   ·refine ifp h1 ?_
    by_cases h2 : x.f1 = b
    ·simp [h1, h2] at hp
    ·refine ifn h2 ?_
     by_cases h3 : x.f0 = b
     ·refine ifp h3 ?_
      by_cases h4 : x.f1 = a
      ·simp [h3, h4] at hp
      ·exact ifn h4 hk
     ·exact ifn h3 hk
   ·refine ifn h1 ?_
    by_cases h3 : x.f0 = b
    ·refine ifp h3 ?_
     by_cases h4 : x.f1 = a
     ·simp [h3, h4] at hp
     ·exact ifn h4 hk
    ·exact ifn h3 hk
def sameS (w y : ByteArray) : Bool := decide (y.toList = w.toList)
theorem place_is (l : List ByteArray) (hl : l.length ≤ 140737488351232) (w : ByteArray) : Ev (fun k => spec_l06Place.f k l w) (idxB (sameS w) l 0) := by
 refine evc (fun k => spec_l06Place.f.eq_1 ..) ?_
 refine findL l (sameS w) (fun i k => spec_l06Place.l0 k l w i) ?_ ?_
 ·exact stp (fun k => spec_l06Place.l0.eq_2 ..) (ifn (by omega) (sm _))
 ·intro i x hx
  have hi : i < l.length := (List.getElem?_eq_some_iff.1 hx).1
  have hr : rdOf ByteArray.empty l (i : Int) = x := getD_some hx
  have hu := up (i := (i : Int)) (by omega) (by omega : (i : Int) < (l.length : Int)) (by omega)
  constructor
  ·intro hp
   refine stp (fun k => spec_l06Place.l0.eq_2 ..) (ifp (by omega) (ifp (by omega) (ifp ?_ (sm _))))
   rw [hr]; exact of_decide_eq_true hp
  ·intro hp r hk
   refine stp (fun k => spec_l06Place.l0.eq_2 ..) (ifp (by omega) (ifp (by omega) (ifn ?_ ?_)))
   ·rw [hr]; exact of_decide_eq_false hp
   ·rw [hu]; exact hk
theorem contains_is (l : List ByteArray) (hl : l.length ≤ 140737488351232) (w : ByteArray) : Ev (fun k => slices_Contains_string_string.f k l w) (decide (idxB (sameS w) l 0 ≥ 0)) := by
 refine evc (fun k => slices_Contains_string_string.f.eq_1 ..) (bnd ?_ (sm _))
 refine evc (fun k => slices_Index_string_string.f.eq_1 ..) ?_
 refine findL l (sameS w) (fun i k => slices_Index_string_string.l0 k l w (l.length : Int) i) ?_ ?_
 ·exact stp (fun k => slices_Index_string_string.l0.eq_2 ..) (ifn (by omega) (sm _))
 ·intro i x hx
  have hi : i < l.length := (List.getElem?_eq_some_iff.1 hx).1
  have hr : rdOf ByteArray.empty l (i : Int) = x := getD_some hx
  have hu := up (i := (i : Int)) (by omega) (by omega : (i : Int) < (l.length : Int)) (by omega)
  constructor
  ·intro hp
   refine stp (fun k => slices_Index_string_string.l0.eq_2 ..) (ifp (by omega) (ifp (by omega) (ifp (by omega) (ifp ?_ (sm _)))))
   rw [hr]; exact (of_decide_eq_true hp).symm
  ·intro hp r hk
   refine stp (fun k => slices_Index_string_string.l0.eq_2 ..) (ifp (by omega) (ifp (by omega) (ifp (by omega) (ifn ?_ ?_))))
   ·rw [hr]; exact fun q => of_decide_eq_false hp q.symm
   ·rw [hu]; exact hk
theorem wrap_up {i : Int} {n : Nat} (h0 : 0 ≤ i) (h : i < (n : Int)) (hn : n ≤ 140737488351232) : wrap64 (i + 1) = i + 1 := by
 unfold wrap64
 omega
def lt (c : Int) : Bool := (decide (97 ≤ c) && decide (c ≤ 122)) || (decide (65 ≤ c) && decide (c ≤ 90)) || (c == 95)
def dg (c : Int) : Bool := decide (48 ≤ c) && decide (c ≤ 57)
theorem letter_is (c : Int) : spec_l00Letter.f c = some (lt c) := by
 unfold spec_l00Letter.f lt
 by_cases h1 : 97 ≤ c <;> by_cases h2 : c ≤ 122 <;> by_cases h3 : 65 ≤ c <;> by_cases h4 : c ≤ 90 <;> simp [h1, h2, h3, h4]
theorem digit_is (c : Int) : spec_l00Digit.f c = some (dg c) := by
 unfold spec_l00Digit.f dg
 by_cases h1 : 48 ≤ c <;> simp [h1]
def allOK (s : ByteArray) : Nat → Int → Bool
 | 0, _ => true
 | d + 1, i => (lt (bt s i) || (decide (i ≠ 0) && dg (bt s i))) && allOK s d (i + 1)
theorem impl_step (k : Nat) (s : ByteArray) (i : Int) (h0 : 0 ≤ i) (h1 : i < (s.size : Int)) :
  impl_NameOK.l0 (k + 1) s (s.size : Int) i = if (lt (bt s i) || (decide (i ≠ 0) && dg (bt s i))) = true then impl_NameOK.l0 k s (s.size : Int) (wrap64 (i + 1)) else some false := by
 simp only [impl_NameOK.l0]
 rw [if_pos h1, if_pos h0, if_pos h1]
 generalize bt s i = c
 unfold lt dg
 by_cases g1 : 97 ≤ c <;> by_cases g2 : c ≤ 122 <;> by_cases g3 : 65 ≤ c <;> by_cases g4 : c ≤ 90 <;> by_cases g5 : c = 95 <;> by_cases g6 : i = 0 <;> by_cases g7 : 48 ≤ c <;> by_cases g8 : c ≤ 57 <;> simp [g1, g2, g3, g4, g5, g6, g7, g8]
theorem impl_loop (s : ByteArray) (hn : s.size ≤ 140737488351232) (d : Nat) : ∀ (k : Nat) (i : Int), 0 ≤ i → (s.size : Int) - i = d → d < k →
  impl_NameOK.l0 k s (s.size : Int) i = some (allOK s d i && decide (1 ≤ s.size) && decide (s.size ≤ 40)) := by
 induction d with
 | zero =>
  intro k i h0 hd hk
  obtain ⟨k, rfl⟩ : ∃ m, k = m + 1 := ⟨k - 1, by omega⟩
  simp only [impl_NameOK.l0]
  rw [if_neg (by omega)]
  simp only [impl_within.f, allOK, Bool.true_and]
  by_cases g1 : 1 ≤ s.size
  ·rw [if_pos (by omega)]; simp only [Option.bind_some, decide_eq_true g1, Bool.true_and]
   by_cases g2 : s.size ≤ 40
   ·rw [decide_eq_true g2, decide_eq_true (by omega)]
   ·rw [decide_eq_false g2, decide_eq_false (by omega)]
  ·rw [if_neg (by omega)]; simp only [Option.bind_some, decide_eq_false g1, Bool.false_and]
 | succ d ih =>
  intro k i h0 hd hk
  obtain ⟨k, rfl⟩ : ∃ m, k = m + 1 := ⟨k - 1, by omega⟩
  rw [impl_step k s i h0 (by omega)]
  simp only [allOK]
  cases h : (lt (bt s i) || (decide (i ≠ 0) && dg (bt s i))) with
  | true => rw [if_pos rfl, wrap_up h0 (by omega) hn, ih k (i + 1) (by omega) (by omega) (by omega)]; simp
  | false => simp
theorem spec_loop (s : ByteArray) (hn : s.size ≤ 140737488351232) (d : Nat) : ∀ (k : Nat) (i : Int), 1 ≤ i → (s.size : Int) - i = d → d < k →
  spec_l00Word.l0 k s i = some (allOK s d i) := by
 induction d with
 | zero =>
  intro k i h0 hd hk
  obtain ⟨k, rfl⟩ : ∃ m, k = m + 1 := ⟨k - 1, by omega⟩
  simp only [spec_l00Word.l0]
  rw [if_neg (by omega)]
  simp only [allOK]
 | succ d ih =>
  intro k i h0 hd hk
  obtain ⟨k, rfl⟩ : ∃ m, k = m + 1 := ⟨k - 1, by omega⟩
  simp only [spec_l00Word.l0, letter_is, digit_is, Option.bind_some, allOK]
  rw [if_pos (by omega), if_pos (by omega), wrap_up (by omega) (by omega) hn, ih k (i + 1) (by omega) (by omega) (by omega), decide_eq_true (by omega : i ≠ 0)]
  cases lt (bt s i) <;> cases dg (bt s i) <;> simp
theorem spec_is (s : ByteArray) (hn : s.size ≤ 140737488351232) (k : Nat) (hk : s.size + 2 < k) :
  spec_NameOK.f k s = some (allOK s s.size 0 && decide (1 ≤ s.size) && decide (s.size ≤ 40)) := by
 obtain ⟨k, rfl⟩ : ∃ m, k = m + 1 := ⟨k - 1, by omega⟩
 unfold spec_NameOK.f spec_l00Word.f
 by_cases g1 : 1 ≤ s.size
 ·rw [if_neg (by omega)]
  by_cases g2 : s.size ≤ 40
  ·rw [if_neg (by omega), if_pos (by omega), letter_is]
   simp only [Option.bind_some, spec_l00Word.j0, decide_eq_true g1, decide_eq_true g2, Bool.and_true]
   rw [spec_loop s hn (s.size - 1) k 1 (by omega) (by omega) (by omega)]
   obtain ⟨m, hm⟩ : ∃ m, s.size = m + 1 := ⟨s.size - 1, by omega⟩
   rw [hm]
   simp only [allOK, Nat.add_sub_cancel]
   cases lt (bt s 0) <;> simp
  ·rw [if_pos (by omega)]
   simp only [Option.bind_some, spec_l00Word.j0, decide_eq_false g2, Bool.and_false]
   rfl
 ·rw [if_pos (by omega)]
  simp only [Option.bind_some, spec_l00Word.j0, decide_eq_false g1, Bool.and_false, Bool.false_and]
  rfl
def nameB (s : ByteArray) : Bool := allOK s s.size 0 && decide (1 ≤ s.size) && decide (s.size ≤ 40)
theorem sname_is (s : ByteArray) (hn : s.size ≤ 140737488351232) : Ev (fun k => spec_NameOK.f k s) (nameB s) := ⟨s.size + 3, fun k hk => spec_is s hn k (by omega)⟩
theorem iname_is (s : ByteArray) (hn : s.size ≤ 140737488351232) : Ev (fun k => impl_NameOK.f k s) (nameB s) := ⟨s.size + 3, fun k hk => by unfold impl_NameOK.f; exact impl_loop s hn s.size k 0 (by omega) (by omega) (by omega)⟩
def nmB (all : List ByteArray) : List ByteArray → Nat → Bool
 | [], _ => true
 | y :: r, i => nameB y && (!(decide (idxB (sameS y) (all.take i) 0 ≥ 0)) && nmB all r (i + 1))
theorem snames_is (all : List ByteArray) (ha : all.length ≤ 140737488351232) : ∀ (l : List ByteArray) (i : Nat), (∀ x ∈ l, x.size ≤ 140737488351232) → Ev (fun k => snamesO k all l i) (nmB all l i)
 | [], i, _ => evc (fun k => snamesO.eq_1 ..) (sm _)
 | y :: r, i, h => by
  refine evc (fun k => snamesO.eq_2 ..) (bnd (sname_is y (h y List.mem_cons_self)) ?_)
  rw [nmB]
  cases nameB y with
  | false => exact ifp rfl (sm _)
  | true =>
   refine ifn (by decide) (bnd (place_is (all.take i) (by rw [List.length_take]; omega) y) ?_)
   cases hq : decide (idxB (sameS y) (all.take i) 0 ≥ 0) with
   | true => exact ifp rfl (sm _)
   | false =>
    rw [Bool.not_false, Bool.true_and, Bool.true_and]
    exact ifn Bool.false_ne_true (snames_is all ha r (i + 1) (fun x hx => h x (List.mem_cons_of_mem _ hx)))
theorem inames_is (all : List ByteArray) (ha : all.length ≤ 140737488351232) : ∀ (l : List ByteArray) (i : Nat), (∀ x ∈ l, x.size ≤ 140737488351232) → Ev (fun k => namesO k all l i) (nmB all l i)
 | [], i, _ => evc (fun k => namesO.eq_1 ..) (sm _)
 | y :: r, i, h => by
  refine evc (fun k => namesO.eq_2 ..) (bnd (iname_is y (h y List.mem_cons_self)) ?_)
  rw [nmB]
  cases nameB y with
  | false => exact ifn Bool.false_ne_true (sm _)
  | true =>
   refine ifp rfl (bnd (contains_is (all.take i) (by rw [List.length_take]; omega) y) ?_)
   cases hq : decide (idxB (sameS y) (all.take i) 0 ≥ 0) with
   | true => exact ifp rfl (sm _)
   | false =>
    rw [Bool.not_false, Bool.true_and, Bool.true_and]
    exact ifn Bool.false_ne_true (inames_is all ha r (i + 1) (fun x hx => h x (List.mem_cons_of_mem _ hx)))
def risB (n : Nat) (l : List Int) : Nat → Nat → Bool
 | 0, _ => true
 | d + 1, i => (inB (l.getD i 0) 0 ((n : Int) - 1) && !(decide (i > 0) && decide (l.getD (i - 1) 0 ≥ l.getD i 0))) && risB n l d (i + 1)
theorem lin_is (a lo hi : Int) : spec_l01In.f a lo hi = some (inB a lo hi) := sin_is a lo hi
theorem rising_is (n : Nat) (hn : 1 ≤ n) (hn4 : n ≤ 4) (l : List Int) (hl : l.length ≤ 140737488351232) : Ev (fun k => spec_l06Rising.f k l (n : Int)) (risB n l l.length 0) := by
 refine evc (fun k => spec_l06Rising.f.eq_1 ..) ?_
 have key : ∀ (d i : Nat), i + d = l.length → Ev (fun k => spec_l06Rising.l0 k l (n : Int) (i : Int)) (risB n l d i) := by
  intro d
  induction d with
  | zero => intro i hd; exact stp (fun k => spec_l06Rising.l0.eq_2 ..) (ifn (by omega) (sm _))
  | succ d ih =>
   intro i hd
   have hr : rd l (i : Int) = l.getD i 0 := by unfold rd; rw [Int.toNat_natCast]
   have hnx := ih (i + 1) (by omega)
   rw [show ((i + 1 : Nat) : Int) = (i : Int) + 1 by omega] at hnx
   refine stp (fun k => spec_l06Rising.l0.eq_2 ..) (ifp (by omega) (ifp (by omega) ?_))
   rw [hr, w64 (x := (n : Int) - 1) (by omega) (by omega), up (i := (i : Int)) (by omega) (by omega : (i : Int) < (l.length : Int)) (by omega), risB]
   refine bnd0 (lin_is _ _ _) ?_
   cases inB (l.getD i 0) 0 ((n : Int) - 1) with
   | false => exact ifn Bool.false_ne_true (sm _)
   | true =>
    refine ifp rfl ?_
    rw [Bool.true_and]
    by_cases h0 : i > 0
    ·have hr1 : rd l (wrap64 ((i : Int) - 1)) = l.getD (i - 1) 0 := by rw [w64 (by omega) (by omega)]; unfold rd; rw [show ((i : Int) - 1).toNat = i - 1 by omega]
     refine ifp (by omega) (ifp (by rw [w64 (by omega) (by omega)]; omega) (ifp (by rw [w64 (by omega) (by omega)]; omega) ?_))
     rw [hr1, decide_eq_true h0, Bool.true_and]
     by_cases h1 : l.getD (i - 1) 0 ≥ l.getD i 0
     ·rw [decide_eq_true h1]; exact ifp h1 (sm _)
     ·rw [decide_eq_false h1]; exact ifn h1 hnx
    ·rw [decide_eq_false h0]; exact ifn (by omega) hnx
 have := key l.length 0 (by omega)
 exact this
theorem routers_is (l0 : List ByteArray) (l1 : List S92) (l2 l3 : List Int) (l4 : List S95) (l5 : List S97) (hn : 1 ≤ l0.length) (hn4 : l0.length ≤ 4) (l : List Int) (hl : l.length ≤ 140737488351232) : Ev (fun k => impl_areRouters.f k l0 l1 l2 l3 l4 l5 l) (risB l0.length l l.length 0) := by
 refine evc (fun k => impl_areRouters.f.eq_1 ..) ?_
 have key : ∀ (d i : Nat), i + d = l.length → Ev (fun k => impl_areRouters.l0 k l l (l.length : Int) (i : Int) l0 l1 l2 l3 l4 l5) (risB l0.length l d i) := by
  intro d
  induction d with
  | zero => intro i hd; exact stp (fun k => impl_areRouters.l0.eq_2 ..) (ifn (by omega) (sm _))
  | succ d ih =>
   intro i hd
   have hr : rd l (i : Int) = l.getD i 0 := by unfold rd; rw [Int.toNat_natCast]
   have hnx := ih (i + 1) (by omega)
   rw [show ((i + 1 : Nat) : Int) = (i : Int) + 1 by omega] at hnx
   refine stp (fun k => impl_areRouters.l0.eq_2 ..) (ifp (by omega) (ifp (by omega) (ifp (by omega) ?_)))
   rw [hr, up (i := (i : Int)) (by omega) (by omega : (i : Int) < (l.length : Int)) (by omega), risB]
   refine bnd0 (a := inB (l.getD i 0) 0 ((l0.length : Int) - 1)) ?_ ?_
   ·unfold impl_isRouter.f
    rw [w64 (x := (l0.length : Int) - 1) (by omega) (by omega), within_is]
    rfl
   cases inB (l.getD i 0) 0 ((l0.length : Int) - 1) with
   | false => exact ifn Bool.false_ne_true (sm _)
   | true =>
    refine ifp rfl ?_
    rw [Bool.true_and]
    by_cases h0 : i > 0
    ·have hr1 : rd l (wrap64 ((i : Int) - 1)) = l.getD (i - 1) 0 := by rw [w64 (by omega) (by omega)]; unfold rd; rw [show ((i : Int) - 1).toNat = i - 1 by omega]
     refine ifp (by omega) (ifp (by rw [w64 (by omega) (by omega)]; omega) (ifp (by rw [w64 (by omega) (by omega)]; omega) ?_))
     rw [hr1, decide_eq_true h0, Bool.true_and]
     by_cases h1 : l.getD (i - 1) 0 ≥ l.getD i 0
     ·rw [decide_eq_true h1]; exact ifp h1 (sm _)
     ·rw [decide_eq_false h1]; exact ifn h1 hnx
    ·rw [decide_eq_false h0]; exact ifn (by omega) hnx
 exact key l.length 0 (by omega)
theorem idxB_nonneg {α : Type} (p : α → Bool) : ∀ (l : List α) (i : Nat), (l.any p = true → (i : Int) ≤ idxB p l i ∧ idxB p l i < i + l.length) ∧ (l.any p = false → idxB p l i = -1)
 | [], i => ⟨fun h => by simp at h, fun _ => rfl⟩
 | x :: r, i => by
  obtain ⟨h1, h2⟩ := idxB_nonneg p r (i + 1)
  rw [List.any_cons, idxB]
  cases hp : p x with
  | true => exact ⟨fun _ => by rw [if_pos rfl, List.length_cons]; omega, fun h => by cases h⟩
  | false =>
   rw [Bool.false_or, if_neg Bool.false_ne_true, List.length_cons]
   exact ⟨fun h => by have := h1 h; omega, h2⟩
theorem idxB_ge {α : Type} (p : α → Bool) (l : List α) : decide (idxB p l 0 ≥ 0) = l.any p := by
 obtain ⟨h1, h2⟩ := idxB_nonneg p l 0
 cases h : l.any p with
 | true => exact decide_eq_true (by have := h1 h; omega)
 | false => exact decide_eq_false (by rw [h2 h]; omega)
theorem idxB_app {α : Type} (p : α → Bool) (x : α) (r : List α) (hx : p x = true) : ∀ (l : List α) (i : Nat), decide (idxB p (l ++ x :: r) i < ((i + l.length : Nat) : Int)) = l.any p
 | [], i => by
  rw [List.nil_append, idxB, if_pos hx]
  exact decide_eq_false (by simp)
 | y :: l, i => by
  have ih := idxB_app p x r hx l (i + 1)
  rw [List.cons_append, idxB, List.any_cons]
  cases hp : p y with
  | true => rw [if_pos rfl, Bool.true_or, List.length_cons]; exact decide_eq_true (by omega)
  | false =>
   rw [if_neg Bool.false_ne_true, Bool.false_or, ← ih, List.length_cons, show i + (l.length + 1) = i + 1 + l.length by omega]
theorem slinks_is (n : Nat) (all : List S92) (ha : all.length ≤ 140737488351232) : ∀ (l : List S92) (pre : List S92), all = pre ++ l → Ev (fun k => slinksO k n all l pre.length) (linksB n all l pre.length)
 | [], pre, _ => evc (fun k => slinksO.eq_1 ..) (sm _)
 | x :: r, pre, h => by
  refine evc (fun k => slinksO.eq_2 ..) ?_
  have hj : joinB x.f0 x.f1 x = true := by unfold joinB; simp
  have hlt := idxB_app (joinB x.f0 x.f1) x r hj pre 0
  rw [Nat.zero_add, ← h] at hlt
  have htk : all.take pre.length = pre := by rw [h]; simp
  have hge := idxB_ge (joinB x.f0 x.f1) pre
  have hnx := slinks_is n all ha r (pre ++ [x]) (by rw [h]; simp)
  rw [List.length_append, List.length_singleton] at hnx
  rw [linksB]
  unfold linkB linkI
  rw [hlt]
  unfold routerB inB
  cases decide (0 ≤ x.f0) && decide (x.f0 ≤ (n : Int) - 1) with
  | false => exact ifp rfl (sm _)
  | true =>
   cases decide (0 ≤ x.f1) && decide (x.f1 ≤ (n : Int) - 1) with
   | false => exact ifp rfl (sm _)
   | true =>
    cases x.f0 == x.f1 with
    | true => exact ifp rfl (sm _)
    | false =>
     cases decide (1 ≤ x.f2) && decide (x.f2 ≤ 100) with
     | false => 
      rw [show ((true && (true && (!false && (!(pre.any (joinB x.f0 x.f1)) && false)))) && linksB n all r (pre.length + 1)) = false from by simp]
      exact ifp rfl (sm _)
     | true =>
      refine ifn (by decide) (bnd (link_is (all.take pre.length) (by rw [List.length_take]; omega) x.f0 x.f1) ?_)
      rw [htk]
      unfold linkI
      rw [hge]
      cases pre.any (joinB x.f0 x.f1) with
      | true => exact ifp rfl (sm _)
      | false => exact ifn Bool.false_ne_true hnx
theorem simps_is (all : List S92) (ha : all.length ≤ 140737488351232) : ∀ (l : List S95), Ev (fun k => simpsO k all l) (!(l.any (impBad all)))
 | [] => evc (fun k => simpsO.eq_1 ..) (sm _)
 | x :: r => by
  have hnx := simps_is all ha r
  refine evc (fun k => simpsO.eq_2 ..) (bnd (link_is all ha x.f0 x.f1) ?_)
  have hz : (((((decide (linkI all x.f0 x.f1 < 0)) || (!(inB x.f2 0 2))) || (!(inB x.f3 1 4))) || ((x.f3 == 2) && (!(inB x.f4 0 1000)))) || ((x.f3 != 2) && (x.f4 != 0))) = impBad all x := by
   unfold impBad importB
   by_cases h2 : x.f3 = 2
   ·have e1 : (x.f3 == 2) = true := by simpa using h2
    have e2 : (x.f3 != 2) = false := by rw [bne, e1]; rfl
    rw [e1, e2, if_pos h2]
    cases decide (linkI all x.f0 x.f1 < 0) <;> cases inB x.f2 0 2 <;> cases inB x.f3 1 4 <;> cases inB x.f4 0 1000 <;> rfl
   ·have e1 : (x.f3 == 2) = false := by simpa using h2
    have e2 : (x.f3 != 2) = true := by rw [bne, e1]; rfl
    rw [e1, e2, if_neg h2]
    have e3 : (x.f4 != 0) = !(inB x.f4 0 0) := by
     unfold inB
     rw [Bool.eq_iff_iff]
     simp
     omega
    rw [e3]
    cases decide (linkI all x.f0 x.f1 < 0) <;> cases inB x.f2 0 2 <;> cases inB x.f3 1 4 <;> cases inB x.f4 0 0 <;> rfl
  rw [hz, List.any_cons]
  cases impBad all x with
  | true => exact ifp rfl (sm _)
  | false => exact ifn Bool.false_ne_true hnx
theorem sfilts_is (all : List S92) (ha : all.length ≤ 140737488351232) : ∀ (l : List S97), Ev (fun k => sfiltsO k all l) (!(l.any (filtBad all)))
 | [] => evc (fun k => sfiltsO.eq_1 ..) (sm _)
 | x :: r => by
  have hnx := sfilts_is all ha r
  refine evc (fun k => sfiltsO.eq_2 ..) (bnd (link_is all ha x.f0 x.f1) ?_)
  have hz : (((decide (linkI all x.f0 x.f1 < 0)) || (!(inB x.f2 0 15))) || (!(inB x.f3 x.f2 15))) = filtBad all x := by
   unfold filtBad
   have e : (!inB x.f2 0 x.f3 || decide (x.f3 > 15)) = (!(inB x.f2 0 15) || !(inB x.f3 x.f2 15)) := by
    unfold inB
    rw [Bool.eq_iff_iff]
    simp
    omega
   rw [e, Bool.or_assoc]
  rw [hz, List.any_cons]
  cases filtBad all x with
  | true => exact ifp rfl (sm _)
  | false => exact ifn Bool.false_ne_true hnx
def netB (l0 : List ByteArray) (l1 : List S92) (l2 l3 : List Int) (l4 : List S95) (l5 : List S97) : Bool :=
 (inB l0.length 1 4 && (decide (l1.length ≤ 6) && (decide (l4.length ≤ 12) && decide (l5.length ≤ 6)))) && (risB l0.length l2 l2.length 0 && (risB l0.length l3 l3.length 0 && (decide (l3.length ≤ 2) && (nmB l0 l0 0 && (linksB l0.length l1 l1 0 && (!(l4.any (impBad l1)) && !(l5.any (filtBad l1))))))))
section
variable (l0 : List ByteArray) (l1 : List S92) (l2 l3 : List Int) (l4 : List S95) (l5 : List S97) (hs : ∀ x ∈ l0, x.size ≤ 140737488351232) (h2 : l2.length ≤ 140737488351232) (h3 : l3.length ≤ 140737488351232)
theorem netB_no (h : ¬ (inB l0.length 1 4 = true ∧ l1.length ≤ 6 ∧ l4.length ≤ 12 ∧ l5.length ≤ 6)) : netB l0 l1 l2 l3 l4 l5 = false := by
 unfold netB
 rw [Bool.and_eq_false_iff]
 left
 rw [Bool.eq_false_iff]
 intro q
 simp only [Bool.and_eq_true, decide_eq_true_eq] at q
 exact h ⟨q.1, q.2.1, q.2.2.1, q.2.2.2⟩
theorem netB_yes (h : inB l0.length 1 4 = true ∧ l1.length ≤ 6 ∧ l4.length ≤ 12 ∧ l5.length ≤ 6) : netB l0 l1 l2 l3 l4 l5 = (risB l0.length l2 l2.length 0 && (risB l0.length l3 l3.length 0 && (decide (l3.length ≤ 2) && (nmB l0 l0 0 && (linksB l0.length l1 l1 0 && (!(l4.any (impBad l1)) && !(l5.any (filtBad l1)))))))) := by
 unfold netB
 rw [h.1, decide_eq_true h.2.1, decide_eq_true h.2.2.1, decide_eq_true h.2.2.2]
 rfl
include hs h2 h3
theorem specNet_is : Ev (fun k => spec_NetOK.f k l0 l1 l2 l3 l4 l5) (netB l0 l1 l2 l3 l4 l5) := by
 refine evc (fun k => spec_NetOK.f.eq_1 ..) ?_
 by_cases hg : inB l0.length 1 4 = true ∧ l1.length ≤ 6 ∧ l4.length ≤ 12 ∧ l5.length ≤ 6
 ·have hn : 1 ≤ l0.length ∧ l0.length ≤ 4 := by have := hg.1; unfold inB at this; simp at this; omega
  rw [netB_yes l0 l1 l2 l3 l4 l5 hg]
  rw [hg.1, decide_eq_false (show ¬ (l1.length : Int) > 6 by omega), decide_eq_false (show ¬ (l4.length : Int) > 12 by omega), decide_eq_false (show ¬ (l5.length : Int) > 6 by omega)]
  refine ifn (by decide) (bnd (rising_is _ hn.1 hn.2 l2 h2) ?_)
  cases risB l0.length l2 l2.length 0 with
  | false => exact ifp rfl (sm _)
  | true =>
   refine ifn (by decide) (bnd (rising_is _ hn.1 hn.2 l3 h3) ?_)
   cases risB l0.length l3 l3.length 0 with
   | false => exact ifp rfl (sm _)
   | true =>
    by_cases h9 : l3.length ≤ 2
    ·rw [decide_eq_false (show ¬ (l3.length : Int) > 2 by omega)]
     refine ifn (by decide) (bnd (snames_is l0 (by omega) l0 0 hs) ?_)
     rw [decide_eq_true h9]
     cases nmB l0 l0 0 with
     | false => exact ifp rfl (sm _)
     | true =>
      refine ifn (by decide) (bnd (slinks_is l0.length l1 (by omega) l1 [] rfl) ?_)
      rw [List.length_nil]
      cases linksB l0.length l1 l1 0 with
      | false => exact ifp rfl (sm _)
      | true =>
       refine ifn (by decide) (bnd (simps_is l1 (by omega) l4) ?_)
       cases l4.any (impBad l1) with
       | true => exact ifp rfl (sm _)
       | false => exact ifn (by decide) (sfilts_is l1 (by omega) l5)
    ·rw [decide_eq_false h9, decide_eq_true (show (l3.length : Int) > 2 by omega)]
     exact ifp rfl (sm _)
 ·rw [netB_no l0 l1 l2 l3 l4 l5 hg]
  refine ifp ?_ (sm _)
  by_cases i1 : inB l0.length 1 4 = true
  ·by_cases i2 : l1.length ≤ 6
   ·by_cases i3 : l4.length ≤ 12
    ·have i4 : ¬ l5.length ≤ 6 := fun q => hg ⟨i1, i2, i3, q⟩
     rw [decide_eq_true (show (l5.length : Int) > 6 by omega), Bool.or_true]
    ·rw [decide_eq_true (show (l4.length : Int) > 12 by omega), Bool.or_true, Bool.true_or]
   ·rw [decide_eq_true (show (l1.length : Int) > 6 by omega), Bool.or_true, Bool.true_or, Bool.true_or]
  ·rw [Bool.eq_false_iff.2 i1]
   rfl
theorem implNet_is : Ev (fun k => impl_isNet.f k l0 l1 l2 l3 l4 l5) (netB l0 l1 l2 l3 l4 l5) := by
 refine evc (fun k => impl_isNet.f.eq_1 ..) ?_
 by_cases hg : inB l0.length 1 4 = true ∧ l1.length ≤ 6 ∧ l4.length ≤ 12 ∧ l5.length ≤ 6
 ·have hn : 1 ≤ l0.length ∧ l0.length ≤ 4 := by have := hg.1; unfold inB at this; simp at this; omega
  rw [netB_yes l0 l1 l2 l3 l4 l5 hg]
  have hra := routers_is l0 l1 l2 l3 l4 l5 hn.1 hn.2 l2 h2
  have hrb := routers_is l0 l1 l2 l3 l4 l5 hn.1 hn.2 l3 h3
  refine ifp hg (bnd (inames_is l0 (by omega) l0 0 hs) ?_)
  cases nmB l0 l0 0 with
  | false => simp only [Bool.false_and, Bool.and_false]; exact ifn Bool.false_ne_true (sm _)
  | true =>
   refine ifp rfl ?_
   cases linksB l0.length l1 l1 0 with
   | false => simp only [Bool.false_and, Bool.and_false]; exact ifn Bool.false_ne_true (sm _)
   | true =>
    refine ifp rfl ?_
    cases l4.any (impBad l1) with
    | true => simp only [Bool.not_true, Bool.false_and, Bool.and_false]; exact ifp trivial (sm _)
    | false =>
     refine ifn Bool.false_ne_true ?_
     cases l5.any (filtBad l1) with
     | true => simp only [Bool.not_true, Bool.false_and, Bool.and_false]; exact ifp trivial (sm _)
     | false =>
      refine ifn Bool.false_ne_true (bnd hra ?_)
      cases risB l0.length l2 l2.length 0 with
      | false => exact ifn Bool.false_ne_true (sm _)
      | true =>
       refine ifp rfl (bnd hrb ?_)
       simp only [Bool.not_false, Bool.true_and, Bool.and_true]
       exact sm _
 ·rw [netB_no l0 l1 l2 l3 l4 l5 hg]
  exact ifn hg (sm _)
end
def nbL (l1 : List S92) (a : Int) (dn : List Bool) : Nat → Nat → List Int → List Int
 | 0, _, acc => acc
 | d + 1, i, acc => nbL l1 a dn d (i + 1) (if linkI l1 a (i : Int) ≥ 0 then (if rdOf false dn (linkI l1 a (i : Int)) = true then acc else acc ++ [(i : Int)]) else acc)
theorem nbL_len (l1 : List S92) (a : Int) (dn : List Bool) : ∀ (d i : Nat) (acc : List Int), (nbL l1 a dn d i acc).length ≤ acc.length + d
 | 0, i, acc => Nat.le_refl _
 | d + 1, i, acc => by
  rw [nbL]
  refine Nat.le_trans (nbL_len l1 a dn d (i + 1) _) ?_
  by_cases h1 : linkI l1 a (i : Int) ≥ 0
  ·rw [if_pos h1]
   by_cases h2 : rdOf false dn (linkI l1 a (i : Int)) = true
   ·rw [if_pos h2]; omega
   ·rw [if_neg h2, List.length_append, List.length_singleton]; omega
  ·rw [if_neg h1]; omega
theorem linkI_lt (l1 : List S92) (a b : Int) : linkI l1 a b < (l1.length : Int) ∨ linkI l1 a b = -1 := by
 unfold linkI
 obtain ⟨h1, h2⟩ := idxB_nonneg (joinB a b) l1 0
 cases h : l1.any (joinB a b) with
 | true => have := h1 h; omega
 | false => exact .inr (h2 h)
theorem sneigh_is (l0 : List ByteArray) (l1 : List S92) (l2 l3 : List Int) (l4 : List S95) (l5 : List S97) (a : Int) (dn : List Bool) (h0 : l0.length ≤ 4) (h1 : l1.length ≤ 6) (hd : dn.length = l1.length) : Ev (fun k => spec_l06Neighbours.f k l0 l1 l2 l3 l4 l5 a dn) (nbL l1 a dn l0.length 0 []) := by
 refine evc (fun k => spec_l06Neighbours.f.eq_1 ..) ?_
 have key : ∀ (d i : Nat) (acc : List Int), i + d = l0.length → acc.length ≤ i → Ev (fun k => spec_l06Neighbours.l0 k a dn acc (i : Int) l0 l1 l2 l3 l4 l5) (nbL l1 a dn d i acc) := by
  intro d
  induction d with
  | zero => intro i acc hi ha; exact stp (fun k => spec_l06Neighbours.l0.eq_2 ..) (ifn (by omega) (sm _))
  | succ d ih =>
   intro i acc hi ha
   have hu := up (i := (i : Int)) (by omega) (by omega : (i : Int) < (l0.length : Int)) (by omega)
   have hnx : ∀ acc : List Int, acc.length ≤ i + 1 → Ev (fun k => spec_l06Neighbours.l0 k a dn acc ((i : Int) + 1) l0 l1 l2 l3 l4 l5) (nbL l1 a dn d (i + 1) acc) := fun acc h => by
    have := ih (i + 1) acc (by omega) h
    rwa [show ((i + 1 : Nat) : Int) = (i : Int) + 1 by omega] at this
   refine stp (fun k => spec_l06Neighbours.l0.eq_2 ..) (ifp (by omega) (bnd (link_is l1 (by omega) a (i : Int)) ?_))
   rw [nbL, hu]
   by_cases hg : linkI l1 a (i : Int) ≥ 0
   ·rw [if_pos hg]
    have := linkI_lt l1 a (i : Int)
    refine ifp hg (ifp hg (ifp (by omega) ?_))
    by_cases hr : rdOf false dn (linkI l1 a (i : Int)) = true
    ·rw [if_pos hr]; exact ifp hr (hnx acc (by omega))
    ·rw [if_neg hr]; exact ifn hr (ifp (by omega) (hnx _ (by simp; omega)))
   ·rw [if_neg hg]; exact ifn hg (hnx acc (by omega))
 exact key l0.length 0 [] (by omega) (by simp)
theorem ineigh_is (l0 : List ByteArray) (l1 : List S92) (l2 l3 : List Int) (l4 : List S95) (l5 : List S97) (a : Int) (dn : List Bool) (h0 : l0.length ≤ 4) (h1 : l1.length ≤ 6) (hd : dn.length = l1.length) : Ev (fun k => impl_neighbours.f k l0 l1 l2 l3 l4 l5 a dn) (nbL l1 a dn l0.length 0 []) := by
 refine evc (fun k => impl_neighbours.f.eq_1 ..) ?_
 have key : ∀ (d i : Nat) (acc : List Int), i + d = l0.length → acc.length ≤ i → Ev (fun k => impl_neighbours.l0 k a dn acc (l0.length : Int) (i : Int) l0 l1 l2 l3 l4 l5) (nbL l1 a dn d i acc) := by
  intro d
  induction d with
  | zero => intro i acc hi ha; exact stp (fun k => impl_neighbours.l0.eq_2 ..) (ifn (by omega) (sm _))
  | succ d ih =>
   intro i acc hi ha
   have hu := up (i := (i : Int)) (by omega) (by omega : (i : Int) < (l0.length : Int)) (by omega)
   have hnx : ∀ acc : List Int, acc.length ≤ i + 1 → Ev (fun k => impl_neighbours.l0 k a dn acc (l0.length : Int) ((i : Int) + 1) l0 l1 l2 l3 l4 l5) (nbL l1 a dn d (i + 1) acc) := fun acc h => by
    have := ih (i + 1) acc (by omega) h
    rwa [show ((i + 1 : Nat) : Int) = (i : Int) + 1 by omega] at this
   refine stp (fun k => impl_neighbours.l0.eq_2 ..) (ifp (by omega) (bnd0 (show impl_linkOf.f l0 l1 l2 l3 l4 l5 a (i : Int) = some (linkI l1 a (i : Int)) from rfl) ?_))
   rw [nbL, hu]
   by_cases hg : linkI l1 a (i : Int) ≥ 0
   ·rw [if_pos hg]
    have := linkI_lt l1 a (i : Int)
    refine ifp hg (ifp hg (ifp (by omega) ?_))
    by_cases hr : rdOf false dn (linkI l1 a (i : Int)) = true
    ·rw [if_pos hr]; exact ifp hr (hnx acc (by omega))
    ·rw [if_neg hr]; exact ifn hr (ifp (by omega) (hnx _ (by simp; omega)))
   ·rw [if_neg hg]; exact ifn hg (hnx acc (by omega))
 exact key l0.length 0 [] (by omega) (by simp)
theorem netB_sz {l0 : List ByteArray} {l1 : List S92} {l2 l3 : List Int} {l4 : List S95} {l5 : List S97} (h : netB l0 l1 l2 l3 l4 l5 = true) : 1 ≤ l0.length ∧ l0.length ≤ 4 ∧ l1.length ≤ 6 ∧ l3.length ≤ 2 := by
 unfold netB inB at h
 simp only [Bool.and_eq_true, decide_eq_true_eq] at h
 omega
def bet (a b : S80) : Bool := if a.f1 = b.f1 then (if a.f2 = b.f2 then decide (a.f0 < b.f0) else decide (a.f2 < b.f2)) else decide (a.f1 > b.f1)
def pick (b x : S80) : S80 := if bet x b = true then x else b
theorem bet_self (a : S80) : bet a a = false := by simp [bet]
theorem spec_bet (a b : S80) : spec_l07Better.f a.f0 a.f1 a.f2 a.f3 b.f0 b.f1 b.f2 b.f3 = some (bet a b) := by
 unfold spec_l07Better.f bet
 by_cases h1 : a.f1 = b.f1 <;> by_cases h2 : a.f2 = b.f2 <;> simp [h1, h2]
theorem cmp_is (a b : Int) : cmp_Compare_int.f a b = some (if a < b then -1 else if a > b then 1 else 0) := by
 unfold cmp_Compare_int.f cmp_isNaN_int.f
 simp only [Option.bind_some, bne_self_eq_false]
 by_cases h1 : a < b
 ·simp [h1]
 ·by_cases h2 : a > b <;> simp [h1, h2]
theorem or_is (a b c : Int) : Ev (fun k => cmp_Or_int.f k [a, b, c]) (if a = 0 then (if b = 0 then c else b) else a) := by
 have h3 : (0 : Int) < ([a, b, c].length : Int) := by simp
 refine evc (fun _ => cmp_Or_int.f.eq_1 ..) ?_
 refine stp (fun _ => cmp_Or_int.l0.eq_2 ..) (ifp h3 (ifp (by decide) (ifp h3 ?_)))
 by_cases ha : a = 0
 ·refine ifp (show rd [a, b, c] 0 = 0 from ha) ?_
  rw [if_pos ha, show wrap64 (0 + 1) = (1 : Int) from by unfold wrap64; omega]
  refine stp (fun _ => cmp_Or_int.l0.eq_2 ..) (ifp (by simp) (ifp (by decide) (ifp (by simp) ?_)))
  by_cases hb : b = 0
  ·refine ifp (show rd [a, b, c] 1 = 0 from hb) ?_
   rw [if_pos hb, show wrap64 (1 + 1) = (2 : Int) from by unfold wrap64; omega]
   refine stp (fun _ => cmp_Or_int.l0.eq_2 ..) (ifp (by simp) (ifp (by decide) (ifp (by simp) ?_)))
   by_cases hc : c = 0
   ·refine ifp (show rd [a, b, c] 2 = 0 from hc) ?_
    rw [hc, show wrap64 (2 + 1) = (3 : Int) from by unfold wrap64; omega]
    refine stp (fun _ => cmp_Or_int.l0.eq_2 ..) (ifn (by simp) ?_)
    exact sm 0
   ·refine ifn (show ¬ rd [a, b, c] 2 = 0 from hc) ?_
    exact sm c
  ·refine ifn (show ¬ rd [a, b, c] 1 = 0 from hb) ?_
   rw [if_neg hb]
   exact sm b
 ·refine ifn (show ¬ rd [a, b, c] 0 = 0 from ha) ?_
  rw [if_neg ha]
  exact sm a
theorem impl_bet (a b : S80) : Ev (fun k => impl_isBetter.f k a.f0 a.f1 a.f2 a.f3 b.f0 b.f1 b.f2 b.f3) (bet a b) := by
 refine evc (fun _ => impl_isBetter.f.eq_1 ..) ?_
 refine bnd0 (cmp_is _ _) (bnd0 (cmp_is _ _) (bnd0 (cmp_is _ _) (bnd (or_is _ _ _) (one ?_))))
 unfold bet
 by_cases h1 : a.f1 = b.f1
 ·by_cases h2 : a.f2 = b.f2
  ·by_cases h3 : a.f0 < b.f0
   ·simp [h1, h2, h3]
   ·by_cases h4 : a.f0 > b.f0 <;> simp [h1, h2, h3, h4]
  ·by_cases h3 : a.f2 < b.f2
   ·simp [h1, h2, h3]
   ·have h4 : b.f2 < a.f2 := by omega
    simp [h1, h2, h3, h4]
 ·by_cases h3 : b.f1 < a.f1
  ·simp [h1, h3]
  ·have h4 : a.f1 < b.f1 := by omega
   simp [h1, h3, h4]
def tup (x : S80) : Int × Int × Int × Bool := (x.f0, x.f1, x.f2, x.f3)
def noR : S80 := ⟨-3, 0, 0, false⟩
def bestL : List S80 → S80
 | [] => noR
 | a :: r => r.foldl pick a
theorem sbest_loop (l : List S80) (hl : l.length ≤ 140737488351232) (hv : ∀ x ∈ l, x.f0 ≠ -3) (d : Nat) : ∀ (i : Nat) (b : S80), i + d = l.length → b.f0 ≠ -3 →
  Ev (fun k => spec_l07Best.l0 k l (i : Int) b.f0 b.f1 b.f2 b.f3) (tup ((l.drop i).foldl pick b)) := by
 induction d with
 | zero =>
  intro i b hd hb
  refine stp (fun _ => spec_l07Best.l0.eq_2 ..) (ifn (by omega) ?_)
  rw [List.drop_of_length_le (by omega)]
  exact sm _
 | succ d ih =>
  intro i b hd hb
  have hi : i < l.length := by omega
  have hx : rd_T80 l (i : Int) = l[i] := getD_some (List.getElem?_eq_getElem hi)
  refine stp (fun _ => spec_l07Best.l0.eq_2 ..) (ifp (by omega) (ifn hb (ifp (by omega) ?_)))
  rw [hx, up (by omega) (by omega : (i : Int) < (l.length : Int)) (by omega), List.drop_eq_getElem_cons hi, List.foldl_cons]
  refine bnd0 (spec_bet _ _) ?_
  have hih := ih (i + 1)
  rw [show ((i + 1 : Nat) : Int) = (i : Int) + 1 by omega] at hih
  have hxv := hv l[i] (List.getElem_mem hi)
  unfold pick
  by_cases hbt : bet l[i] b = true
  ·refine ifp hbt ?_
   rw [if_pos hbt]
   exact hih l[i] (by omega) hxv
  ·refine ifn hbt ?_
   rw [if_neg hbt]
   exact hih b (by omega) hb
theorem sbest_is (l : List S80) (hl : l.length ≤ 140737488351232) (hv : ∀ x ∈ l, x.f0 ≠ -3) : Ev (fun k => spec_l07Best.f k l) (tup (bestL l)) := by
 refine evc (fun _ => spec_l07Best.f.eq_1 ..) (bnd0 rfl ?_)
 cases l with
 | nil => exact stp (fun _ => spec_l07Best.l0.eq_2 ..) (ifn (by simp) (sm _))
 | cons a r =>
  refine stp (fun _ => spec_l07Best.l0.eq_2 ..) (ifp (by simp) (ifp rfl (ifp (by omega) ?_)))
  rw [show wrap64 (0 + 1) = ((1 : Nat) : Int) from by unfold wrap64; omega, show rd_T80 (a :: r) 0 = a from rfl]
  exact sbest_loop (a :: r) hl hv r.length 1 a (by simp; omega) (hv a (by simp))
theorem ibest_loop (l : List S80) (hl : l.length ≤ 140737488351232) (d : Nat) : ∀ (i : Nat) (b : S80), i + d = l.length →
  Ev (fun k => impl_bestRoute.l0 k l (l.length : Int) (i : Int) b.f0 b.f1 b.f2 b.f3) (tup ((l.drop i).foldl pick b)) := by
 induction d with
 | zero =>
  intro i b hd
  refine stp (fun _ => impl_bestRoute.l0.eq_2 ..) (ifn (by omega) ?_)
  rw [List.drop_of_length_le (by omega)]
  exact sm _
 | succ d ih =>
  intro i b hd
  have hi : i < l.length := by omega
  have hx : rd_T80 l (i : Int) = l[i] := getD_some (List.getElem?_eq_getElem hi)
  refine stp (fun _ => impl_bestRoute.l0.eq_2 ..) (ifp (by omega) (ifp (by omega) (ifp (by omega) ?_)))
  rw [hx, up (by omega) (by omega : (i : Int) < (l.length : Int)) (by omega), List.drop_eq_getElem_cons hi, List.foldl_cons]
  refine bnd (impl_bet _ _) ?_
  have hih := ih (i + 1)
  rw [show ((i + 1 : Nat) : Int) = (i : Int) + 1 by omega] at hih
  unfold pick
  by_cases hb : bet l[i] b = true
  ·refine ifp hb ?_
   rw [if_pos hb]
   exact hih l[i] (by omega)
  ·refine ifn hb ?_
   rw [if_neg hb]
   exact hih b (by omega)
theorem ibest_is (a : S80) (r : List S80) (hl : (a :: r).length ≤ 140737488351232) : Ev (fun k => impl_bestRoute.f k (a :: r)) (tup (bestL (a :: r))) := by
 refine evc (fun _ => impl_bestRoute.f.eq_1 ..) (ifp (by simp) ?_)
 have := ibest_loop (a :: r) hl (r.length + 1) 0 a (by simp)
 simp only [List.drop_zero, List.foldl_cons] at this
 rwa [show pick a a = a by simp [pick, bet_self]] at this
theorem eqR_self (l : List S80) (hl : l.length ≤ 140737488351232) : Ev (fun k => laws_eqRouteS.f k l l) true := by
 refine evc (fun _ => laws_eqRouteS.f.eq_1 ..) (ifp rfl ?_)
 refine same l (fun i k => laws_eqRouteS.l0 k l l i) ?_ ?_
 ·exact stp (fun _ => laws_eqRouteS.l0.eq_2 ..) (ifn (by omega) (sm _))
 ·intro i x hx hk
  have hi : i < l.length := (List.getElem?_eq_some_iff.1 hx).1
  refine stp (fun _ => laws_eqRouteS.l0.eq_2 ..) (ifp (by omega) (ifp (by omega) (ifp (by omega) ?_)))
  rw [up (by omega) (by omega : (i : Int) < (l.length : Int)) (by omega)]
  exact bnd0 (a := true) (by unfold laws_eqRoute.f; simp) (ifp rfl hk)
def thrB (l : List S80) (tt : Int) : Nat → Int → Bool
 | 0, _ => true
 | d + 1, k => if k = tt then true else if k < 0 then false else if (rd_T80 l k).f0 < 0 then false else thrB l tt d (rd_T80 l k).f0
def comB (l : List S80) (tt : Int) : Nat → Int → Bool
 | 0, _ => true
 | d + 1, k => if k = tt then true else if k < 0 then false else comB l tt d (rd_T80 l k).f0
theorem rd_mem80 (l : List S80) (k : Int) (h0 : 0 ≤ k) (h1 : k < (l.length : Int)) : rd_T80 l k ∈ l := by
 have hk : k.toNat < l.length := by omega
 rw [show rd_T80 l k = l[k.toNat] from getD_some (List.getElem?_eq_getElem hk)]
 exact List.getElem_mem hk
theorem thr_is (l : List S80) (hl : l.length ≤ 4096) (tt from_ : Int) (hf : from_ < (l.length : Int)) (hv : ∀ x ∈ l, x.f0 < (l.length : Int)) : Ev (fun k => spec_l07Through.f k l from_ tt) (thrB l tt (l.length + 1) from_) := by
 refine evc (fun _ => spec_l07Through.f.eq_1 ..) ?_
 have key : ∀ (d i : Nat) (c : Int), i + d = l.length + 1 → c < (l.length : Int) → Ev (fun k => spec_l07Through.l0 k l tt c (i : Int)) (thrB l tt d c) := by
  intro d
  induction d with
  | zero => intro i c hd hc; exact stp (fun _ => spec_l07Through.l0.eq_2 ..) (ifn (by omega) (sm _))
  | succ d ih =>
   intro i c hd hc
   refine stp (fun _ => spec_l07Through.l0.eq_2 ..) (ifp (by omega) ?_)
   rw [thrB]
   by_cases h1 : c = tt
   ·rw [if_pos h1]; exact ifp h1 (sm _)
   rw [if_neg h1]
   refine ifn h1 ?_
   by_cases h2 : c < 0
   ·rw [if_pos h2]; exact ifp h2 (sm _)
   rw [if_neg h2]
   refine ifn h2 (ifp (by omega) (ifp hc ?_))
   by_cases h3 : (rd_T80 l c).f0 < 0
   ·rw [if_pos h3]; exact ifp h3 (sm _)
   rw [if_neg h3, up (by omega) (by omega : (i : Int) < (l.length : Int) + 1) (by omega)]
   have := ih (i + 1) (rd_T80 l c).f0 (by omega) (hv _ (rd_mem80 l c (by omega) hc))
   exact ifn h3 (by rwa [show ((i + 1 : Nat) : Int) = (i : Int) + 1 by omega] at this)
 exact key (l.length + 1) 0 from_ (by omega) hf
theorem com_is (l : List S80) (hl : l.length ≤ 4096) (tt from_ : Int) (hf : from_ < (l.length : Int)) (hv : ∀ x ∈ l, x.f0 < (l.length : Int)) : Ev (fun k => impl_comesTo.f k l from_ tt) (comB l tt (l.length + 1) from_) := by
 refine evc (fun _ => impl_comesTo.f.eq_1 ..) ?_
 rw [w64 (x := (l.length : Int) + 1) (by omega) (by omega)]
 have key : ∀ (d i : Nat) (c : Int), i + d = l.length + 1 → c < (l.length : Int) → Ev (fun k => impl_comesTo.l0 k l tt c ((l.length : Int) + 1) (i : Int)) (comB l tt d c) := by
  intro d
  induction d with
  | zero => intro i c hd hc; exact stp (fun _ => impl_comesTo.l0.eq_2 ..) (ifn (by omega) (sm _))
  | succ d ih =>
   intro i c hd hc
   refine stp (fun _ => impl_comesTo.l0.eq_2 ..) (ifp (by omega) ?_)
   rw [comB]
   by_cases h1 : c = tt
   ·rw [if_pos h1]; exact ifp h1 (sm _)
   rw [if_neg h1]
   refine ifn h1 ?_
   by_cases h2 : c < 0
   ·rw [if_pos h2]; exact ifp h2 (sm _)
   rw [if_neg h2]
   refine ifn h2 (ifp (by omega) (ifp hc ?_))
   rw [up (by omega) (by omega : (i : Int) < (l.length : Int) + 1) (by omega)]
   have := ih (i + 1) (rd_T80 l c).f0 (by omega) (hv _ (rd_mem80 l c (by omega) hc))
   rwa [show ((i + 1 : Nat) : Int) = (i : Int) + 1 by omega] at this
 exact key (l.length + 1) 0 from_ (by omega) hf
theorem php : ∀ (n : Nat) (f : Nat → Nat), (∀ i, i ≤ n → f i < n) → ∃ i j, i < j ∧ j ≤ n ∧ f i = f j
 | 0, f, h => absurd (h 0 (Nat.le_refl _)) (Nat.not_lt_zero _)
 | n + 1, f, h => by
  by_cases hx : ∃ i, i ≤ n ∧ f i = f (n + 1)
  ·obtain ⟨i, hi, he⟩ := hx
   exact ⟨i, n + 1, by omega, Nat.le_refl _, he⟩
  ·obtain ⟨i, j, hij, hj, he⟩ := php n (fun i => if f i = n then f (n + 1) else f i) (fun i hi => by
    have h1 := h i (by omega)
    have h2 := h (n + 1) (Nat.le_refl _)
    have h3 : f i ≠ f (n + 1) := fun e => hx ⟨i, hi, e⟩
    show (if f i = n then f (n + 1) else f i) < n
    split <;> omega)
   refine ⟨i, j, hij, by omega, ?_⟩
   have hi3 : f i ≠ f (n + 1) := fun e => hx ⟨i, by omega, e⟩
   have hj3 : f j ≠ f (n + 1) := fun e => hx ⟨j, hj, e⟩
   split at he <;> split at he <;> omega
def wlk (l : List S80) : Nat → Int → Int
 | 0, k => k
 | d + 1, k => (rd_T80 l (wlk l d k)).f0
theorem wlk_add (l : List S80) (i j : Nat) (k : Int) (h : wlk l i k = wlk l j k) : ∀ m, wlk l (i + m) k = wlk l (j + m) k
 | 0 => h
 | m + 1 => by
  show (rd_T80 l (wlk l (i + m) k)).f0 = (rd_T80 l (wlk l (j + m) k)).f0
  rw [wlk_add l i j k h m]
theorem wlk_on (l : List S80) (k : Int) (hl : ∀ i, i ≤ l.length → 0 ≤ wlk l i k ∧ wlk l i k < (l.length : Int)) : 0 ≤ wlk l (l.length + 1) k := by
 obtain ⟨i, j, hij, hj, he⟩ := php l.length (fun i => (wlk l i k).toNat) (fun i hi => by
  have := hl i hi
  show (wlk l i k).toNat < l.length
  omega)
 have h1 := hl i (by omega)
 have h2 := hl j hj
 have he2 : wlk l i k = wlk l j k := by omega
 have := wlk_add l i j k he2 (l.length + 1 - j)
 rw [show j + (l.length + 1 - j) = l.length + 1 by omega] at this
 rw [← this]
 exact (hl _ (by omega)).1
theorem com_thr (l : List S80) (tt from_ : Int) (ht : 0 ≤ tt) (hf : from_ < (l.length : Int)) (hv : ∀ x ∈ l, x.f0 < (l.length : Int)) : ∀ (d j : Nat), j + d = l.length + 1 → (∀ i, i < j → 0 ≤ wlk l i from_ ∧ wlk l i from_ < (l.length : Int)) → wlk l j from_ < (l.length : Int) → comB l tt d (wlk l j from_) = thrB l tt d (wlk l j from_)
 | 0, j, hd, hw, hc => rfl
 | d + 1, j, hd, hw, hc => by
  rw [comB, thrB]
  by_cases h1 : wlk l j from_ = tt
  ·rw [if_pos h1, if_pos h1]
  rw [if_neg h1, if_neg h1]
  by_cases h2 : wlk l j from_ < 0
  ·rw [if_pos h2, if_pos h2]
  rw [if_neg h2, if_neg h2]
  have hw2 : ∀ i, i < j + 1 → 0 ≤ wlk l i from_ ∧ wlk l i from_ < (l.length : Int) := fun i hi => by
   by_cases e : i = j
   ·subst e; exact ⟨by omega, hc⟩
   ·exact hw i (by omega)
  by_cases h3 : (rd_T80 l (wlk l j from_)).f0 < 0
  ·rw [if_pos h3]
   cases d with
   | zero =>
    have := wlk_on l from_ (fun i hi => hw2 i (by omega))
    obtain rfl : j = l.length := by omega
    exact absurd h3 (by show ¬ wlk l (l.length + 1) from_ < 0; omega)
   | succ d => rw [comB, if_neg (by omega), if_pos h3]
  ·rw [if_neg h3]
   exact com_thr l tt from_ ht hf hv d (j + 1) (by omega) hw2 (hv _ (rd_mem80 l _ (by omega) hc))
theorem imp_eq (a b : Int) : ∀ (l : List S95), (∀ x ∈ l, 1 ≤ x.f3 ∧ x.f3 ≤ 4) → ∀ p m, impI a b l p m = impO a b l p m
 | [], h, p, m => rfl
 | x :: r, h, p, m => by
  have hx := h x (by simp)
  have ih := imp_eq a b r (fun y hy => h y (by simp [hy]))
  rw [impI, impO]
  by_cases c : ((((x.f0 != a) || (x.f1 != b)) || ((x.f2 == 1) && (!m))) || ((x.f2 == 2) && m)) = true
  ·rw [if_pos c, if_pos c, ih]
  rw [if_neg c, if_neg c]
  by_cases c1 : (x.f3 == 1) = true
  ·rw [if_pos c1, if_pos c1]
  rw [if_neg c1, if_neg c1]
  by_cases c2 : (x.f3 == 2) = true
  ·rw [if_pos c2, if_pos c2, ih]
  rw [if_neg c2, if_neg c2]
  by_cases c3 : (x.f3 == 3) = true
  ·rw [if_pos c3, ih, c3]
  rw [if_neg c3]
  have c4 : (x.f3 == 4) = true := by
   simp at c1 c2 c3 ⊢
   omega
  rw [if_pos c4, ih, Bool.eq_false_iff.2 c3]
def addC (l1 : List S92) (l4 : List S95) (rs : List S80) (a : Int) (acc : List S80) (v : Int) : List S80 :=
 if (rd_T80 rs v).f0 = -3 then acc else if thrB rs a (rs.length + 1) v = true then acc else
 match impO a v l4 100 (rd_T80 rs v).f3 with
 | none => acc
 | some q => acc ++ [⟨v, q.1, wrap64 ((rd_T80 rs v).f2 + (rd_T92 l1 (linkI l1 a v)).f2), q.2⟩]
theorem addC_ok (l1 : List S92) (l4 : List S95) (rs : List S80) (a : Int) (acc : List S80) (v : Int) (hv : v ≠ -3) : (addC l1 l4 rs a acc v).length ≤ acc.length + 1 ∧ ((∀ x ∈ acc, x.f0 ≠ -3) → ∀ x ∈ addC l1 l4 rs a acc v, x.f0 ≠ -3) := by
 unfold addC
 split
 ·exact ⟨by omega, fun h => h⟩
 split
 ·exact ⟨by omega, fun h => h⟩
 split
 ·exact ⟨by omega, fun h => h⟩
 ·refine ⟨by simp, fun h x hx => ?_⟩
  rcases List.mem_append.1 hx with hx | hx
  ·exact h x hx
  ·rw [List.mem_singleton.1 hx]; exact hv
theorem addCs_ok (l1 : List S92) (l4 : List S95) (rs : List S80) (a : Int) : ∀ (ns : List Int) (acc : List S80), (∀ v ∈ ns, v ≠ -3) → (ns.foldl (addC l1 l4 rs a) acc).length ≤ acc.length + ns.length ∧ ((∀ x ∈ acc, x.f0 ≠ -3) → ∀ x ∈ ns.foldl (addC l1 l4 rs a) acc, x.f0 ≠ -3)
 | [], acc, h => ⟨by simp, fun h => h⟩
 | v :: r, acc, h => by
  obtain ⟨h1, h2⟩ := addC_ok l1 l4 rs a acc v (h v (by simp))
  obtain ⟨h3, h4⟩ := addCs_ok l1 l4 rs a r (addC l1 l4 rs a acc v) (fun w hw => h w (by simp [hw]))
  rw [List.foldl_cons, List.length_cons]
  exact ⟨by omega, fun h => h4 (h2 h)⟩
def idxE (l : List Int) (a : Int) : Int := idxB (fun x => x == a) l 0
theorem idxE_lt (l : List Int) (a : Int) : idxE l a < (l.length : Int) ∧ (0 ≤ idxE l a ∨ idxE l a = -1) := by
 obtain ⟨h1, h2⟩ := idxB_nonneg (fun x : Int => x == a) l 0
 unfold idxE
 cases h : l.any (fun x => x == a) with
 | true => have := h1 h; omega
 | false => have := h2 h; omega
theorem has_is (l : List Int) (hl : l.length ≤ 140737488351232) (a : Int) : Ev (fun k => spec_l07Has.f k l a) (idxE l a) := by
 refine evc (fun k => spec_l07Has.f.eq_1 ..) ?_
 refine findL l (fun x => x == a) (fun i k => spec_l07Has.l0 k l a i) ?_ ?_
 ·exact stp (fun k => spec_l07Has.l0.eq_2 ..) (ifn (by omega) (sm _))
 ·intro i x hx
  have hi : i < l.length := (List.getElem?_eq_some_iff.1 hx).1
  have hr : rd l (i : Int) = x := getD_some hx
  have hu := up (i := (i : Int)) (by omega) (by omega : (i : Int) < (l.length : Int)) (by omega)
  constructor
  ·intro hp
   refine stp (fun k => spec_l07Has.l0.eq_2 ..) (ifp (by omega) (ifp (by omega) ?_))
   rw [hr]
   exact ifp (by simpa using hp) (sm _)
  ·intro hp r hk
   refine stp (fun k => spec_l07Has.l0.eq_2 ..) (ifp (by omega) (ifp (by omega) ?_))
   rw [hr, hu]
   exact ifn (by simpa using hp) hk
theorem index_is (l : List Int) (hl : l.length ≤ 140737488351232) (a : Int) : Ev (fun k => slices_Index_int_int.f k l a) (idxE l a) := by
 refine evc (fun k => slices_Index_int_int.f.eq_1 ..) ?_
 refine findL l (fun x => x == a) (fun i k => slices_Index_int_int.l0 k l a (l.length : Int) i) ?_ ?_
 ·exact stp (fun k => slices_Index_int_int.l0.eq_2 ..) (ifn (by omega) (sm _))
 ·intro i x hx
  have hi : i < l.length := (List.getElem?_eq_some_iff.1 hx).1
  have hr : rd l (i : Int) = x := getD_some hx
  have hu := up (i := (i : Int)) (by omega) (by omega : (i : Int) < (l.length : Int)) (by omega)
  constructor
  ·intro hp
   refine stp (fun k => slices_Index_int_int.l0.eq_2 ..) (ifp (by omega) (ifp (by omega) (ifp (by omega) ?_)))
   rw [hr]
   exact ifp (by simp at hp; omega) (sm _)
  ·intro hp r hk
   refine stp (fun k => slices_Index_int_int.l0.eq_2 ..) (ifp (by omega) (ifp (by omega) (ifp (by omega) ?_)))
   rw [hr, hu]
   exact ifn (by simp at hp; omega) hk
def ownC (l2 : List Int) (a : Int) : List S80 := if idxE l2 a ≥ 0 then [⟨-2, 200, 0, false⟩] else []
def extC (l3 env : List Int) (a : Int) (acc : List S80) : List S80 :=
 if idxE l3 a ≥ 0 then (if rd env (idxE l3 a) > 0 then acc ++ [⟨-1, 100, 2, rd env (idxE l3 a) == 2⟩] else acc) else acc
def cndL (l0 : List ByteArray) (l1 : List S92) (l2 l3 : List Int) (l4 : List S95) (env : List Int) (dn : List Bool) (rs : List S80) (a : Int) : List S80 :=
 (nbL l1 a dn l0.length 0 []).foldl (addC l1 l4 rs a) (extC l3 env a (ownC l2 a))
theorem nbL_mem (l1 : List S92) (a : Int) (dn : List Bool) (n : Nat) : ∀ (d i : Nat) (acc : List Int), i + d = n → (∀ v ∈ acc, 0 ≤ v ∧ v < (n : Int) ∧ 0 ≤ linkI l1 a v) → ∀ v ∈ nbL l1 a dn d i acc, 0 ≤ v ∧ v < (n : Int) ∧ 0 ≤ linkI l1 a v
 | 0, i, acc, hd, h => h
 | d + 1, i, acc, hd, h => by
  rw [nbL]
  refine nbL_mem l1 a dn n d (i + 1) _ (by omega) ?_
  split
  ·split
   ·exact h
   ·intro v hv
    rcases List.mem_append.1 hv with hv | hv
    ·exact h v hv
    ·rw [List.mem_singleton.1 hv]; exact ⟨by omega, by omega, by assumption⟩
  ·exact h
theorem own_ok (l2 : List Int) (a : Int) : (ownC l2 a).length ≤ 1 ∧ ∀ x ∈ ownC l2 a, x.f0 ≠ -3 := by
 unfold ownC
 split
 ·exact ⟨by simp, fun x hx => by rw [List.mem_singleton.1 hx]; decide⟩
 ·exact ⟨by simp, fun x hx => by cases hx⟩
theorem ext_ok (l3 env : List Int) (a : Int) (acc : List S80) : (extC l3 env a acc).length ≤ acc.length + 1 ∧ ((∀ x ∈ acc, x.f0 ≠ -3) → ∀ x ∈ extC l3 env a acc, x.f0 ≠ -3) := by
 unfold extC
 split
 ·split
  ·refine ⟨by simp, fun h x hx => ?_⟩
   rcases List.mem_append.1 hx with hx | hx
   ·exact h x hx
   ·rw [List.mem_singleton.1 hx]; exact (show (-1 : Int) ≠ -3 by decide)
  ·exact ⟨by omega, fun h => h⟩
 ·exact ⟨by omega, fun h => h⟩
theorem cnd_ok (l0 : List ByteArray) (l1 : List S92) (l2 l3 : List Int) (l4 : List S95) (env : List Int) (dn : List Bool) (rs : List S80) (a : Int) : (cndL l0 l1 l2 l3 l4 env dn rs a).length ≤ l0.length + 2 ∧ ∀ x ∈ cndL l0 l1 l2 l3 l4 env dn rs a, x.f0 ≠ -3 := by
 have h0 := nbL_len l1 a dn l0.length 0 []
 have hm := nbL_mem l1 a dn l0.length l0.length 0 [] (by omega) (fun v hv => by cases hv)
 obtain ⟨h1, h2⟩ := own_ok l2 a
 obtain ⟨h3, h4⟩ := ext_ok l3 env a (ownC l2 a)
 obtain ⟨h5, h6⟩ := addCs_ok l1 l4 rs a (nbL l1 a dn l0.length 0 []) (extC l3 env a (ownC l2 a)) (fun v hv => by have := hm v hv; omega)
 unfold cndL
 rw [List.length_nil] at h0
 exact ⟨by omega, h6 (h4 h2)⟩
section
variable (l0 : List ByteArray) (l1 : List S92) (l2 l3 : List Int) (l4 : List S95) (l5 : List S97) (env : List Int) (dn : List Bool) (rs : List S80) (a : Int)
 (h0 : l0.length ≤ 4) (h1 : l1.length ≤ 6) (h2 : l2.length ≤ 140737488351232) (h3 : l3.length ≤ 2) (hd : dn.length = l1.length) (he : env.length = l3.length) (hrs : rs.length = l0.length) (hv : ∀ x ∈ rs, x.f0 < (rs.length : Int))
include h0 h1 h2 h3 hd he hrs hv
theorem nbs_ok : (nbL l1 a dn l0.length 0 []).length ≤ 4 ∧ ∀ v ∈ nbL l1 a dn l0.length 0 [], 0 ≤ v ∧ v < (rs.length : Int) ∧ 0 ≤ linkI l1 a v ∧ linkI l1 a v < (l1.length : Int) := by
 have _u := And.intro h1 (And.intro h2 (And.intro h3 (And.intro he hv)))
 have hl := nbL_len l1 a dn l0.length 0 []
 have hm := nbL_mem l1 a dn l0.length l0.length 0 [] (by omega) (fun v hv => by cases hv)
 rw [List.length_nil] at hl
 refine ⟨by omega, fun v hv => ?_⟩
 have q := hm v hv
 have q2 := linkI_lt l1 a v
 omega
theorem simport_is (v r0 r1 r2 : Int) (r3 : Bool) (hk : 0 ≤ linkI l1 a v) (hk2 : linkI l1 a v < (l1.length : Int)) : Ev (fun k => spec_l07Import.f k l0 l1 l2 l3 l4 l5 a v r0 r1 r2 r3) (resO v (wrap64 (r2 + (rd_T92 l1 (linkI l1 a v)).f2)) (impO a v l4 100 r3)) := by
 have _u := And.intro h0 (And.intro h2 (And.intro h3 (And.intro he (And.intro hrs hv))))
 exact evc (fun k => spec_l07Import.f.eq_1 ..) (bnd (link_is l1 (by omega) a v) (ifp ⟨hk, hk2⟩ (sm _)))
theorem scand_loop (ns : List Int) (hnl : ns.length ≤ 4) (hns : ∀ v ∈ ns, 0 ≤ v ∧ v < (rs.length : Int) ∧ 0 ≤ linkI l1 a v ∧ linkI l1 a v < (l1.length : Int)) : ∀ (d i : Nat) (acc : List S80), i + d = ns.length → acc.length ≤ i + 2 → Ev (fun k => spec_l07Candidates.l0 k a rs acc ns (i : Int) l0 l1 l2 l3 l4 l5) ((ns.drop i).foldl (addC l1 l4 rs a) acc) := by
 intro d
 induction d with
 | zero =>
  intro i acc hi ha
  refine stp (fun k => spec_l07Candidates.l0.eq_2 ..) (ifn (by omega) ?_)
  rw [List.drop_of_length_le (by omega)]
  exact sm _
 | succ d ih =>
  intro i acc hi ha
  have hlt : i < ns.length := by omega
  have hx : rd ns (i : Int) = ns[i] := getD_some (List.getElem?_eq_getElem hlt)
  obtain ⟨v0, v1, v2, v3⟩ := hns ns[i] (List.getElem_mem hlt)
  have hnx : ∀ acc : List S80, acc.length ≤ i + 1 + 2 → Ev (fun k => spec_l07Candidates.l0 k a rs acc ns (wrap64 ((i : Int) + 1)) l0 l1 l2 l3 l4 l5) ((ns.drop (i + 1)).foldl (addC l1 l4 rs a) acc) := fun acc h => by
   have := ih (i + 1) acc (by omega) h
   rwa [show ((i + 1 : Nat) : Int) = wrap64 ((i : Int) + 1) by rw [up (i := (i : Int)) (by omega) (by omega : (i : Int) < (ns.length : Int)) (by omega)]; omega] at this
  rw [List.drop_eq_getElem_cons hlt, List.foldl_cons]
  refine stp (fun k => spec_l07Candidates.l0.eq_2 ..) (ifp (by omega) (ifp (by omega) ?_))
  rw [hx]
  generalize ns[i] = v at *
  refine ifp v0 (ifp v1 ?_)
  by_cases c3 : (rd_T80 rs v).f0 = -3
  ·rw [show addC l1 l4 rs a acc v = acc by unfold addC; rw [if_pos c3]]
   exact ifp c3 (stp (fun k => spec_l07Candidates.j4.eq_2 ..) (ifp rfl (hnx acc (by omega))))
  refine ifn c3 (bnd (thr_is rs (by omega) a v v1 hv) (stp (fun k => spec_l07Candidates.j4.eq_2 ..) ?_))
  cases ht : thrB rs a (rs.length + 1) v with
  | true =>
   rw [show addC l1 l4 rs a acc v = acc by unfold addC; rw [if_neg c3, if_pos ht]]
   exact ifp rfl (hnx acc (by omega))
  | false =>
   refine ifn Bool.false_ne_true (ifp (by omega) (ifp (by omega) ?_))
   rw [hx]
   refine ifp v0 (ifp v1 (bnd (simport_is l0 l1 l2 l3 l4 l5 env dn rs a h0 h1 h2 h3 hd he hrs hv v _ _ _ _ v2 v3) ?_))
   cases hq : impO a v l4 100 (rd_T80 rs v).f3 with
   | none =>
    rw [show addC l1 l4 rs a acc v = acc by unfold addC; rw [if_neg c3, if_neg (by rw [ht]; exact Bool.false_ne_true), hq]]
    exact ifp rfl (hnx acc (by omega))
   | some q =>
    rw [show addC l1 l4 rs a acc v = acc ++ [⟨v, q.1, wrap64 ((rd_T80 rs v).f2 + (rd_T92 l1 (linkI l1 a v)).f2), q.2⟩] by unfold addC; rw [if_neg c3, if_neg (by rw [ht]; exact Bool.false_ne_true), hq]]
    exact ifn (show ¬ v = -3 by omega) (ifp (by omega) (hnx _ (by rw [List.length_append, List.length_singleton]; omega)))
theorem scand_is : Ev (fun k => spec_l07Candidates.f k l0 l1 l2 l3 l4 l5 a env dn rs) (cndL l0 l1 l2 l3 l4 env dn rs a) := by
 obtain ⟨n1, n2⟩ := nbs_ok l0 l1 l2 l3 env dn rs a h0 h1 h2 h3 hd he hrs hv
 have j2 : ∀ acc : List S80, acc.length ≤ 2 → Ev (fun k => spec_l07Candidates.j2 k a dn rs acc l0 l1 l2 l3 l4 l5) ((nbL l1 a dn l0.length 0 []).foldl (addC l1 l4 rs a) acc) := fun acc hacc =>
  stp (fun k => spec_l07Candidates.j2.eq_2 ..) (bnd (sneigh_is l0 l1 l2 l3 l4 l5 a dn h0 h1 hd) (scand_loop l0 l1 l2 l3 l4 l5 env dn rs a h0 h1 h2 h3 hd he hrs hv _ n1 n2 (nbL l1 a dn l0.length 0 []).length 0 acc (by omega) (by omega)))
 have j0 : ∀ acc : List S80, acc.length ≤ 1 → Ev (fun k => spec_l07Candidates.j0 k a env dn rs acc l0 l1 l2 l3 l4 l5) ((nbL l1 a dn l0.length 0 []).foldl (addC l1 l4 rs a) (extC l3 env a acc)) := fun acc hacc => by
  have hlt := idxE_lt l3 a
  refine stp (fun k => spec_l07Candidates.j0.eq_2 ..) (bnd (has_is l3 (by omega) a) ?_)
  unfold extC
  by_cases c : idxE l3 a ≥ 0
  ·rw [if_pos c]
   refine ifp c (ifp c (ifp (by omega) (stp (fun k => spec_l07Candidates.j1.eq_2 ..) ?_)))
   by_cases c2 : rd env (idxE l3 a) > 0
   ·rw [if_pos c2]
    exact ifp (decide_eq_true c2) (ifp c (ifp (by omega) (ifp (by omega) (j2 _ (by rw [List.length_append, List.length_singleton]; omega)))))
   ·rw [if_neg c2]
    exact ifn (by simpa using c2) (j2 _ (by omega))
  ·rw [if_neg c]
   exact ifn c (stp (fun k => spec_l07Candidates.j1.eq_2 ..) (ifn Bool.false_ne_true (j2 _ (by omega))))
 refine evc (fun k => spec_l07Candidates.f.eq_1 ..) (bnd0 rfl (bnd (has_is l2 h2 a) ?_))
 unfold cndL ownC
 by_cases c : idxE l2 a ≥ 0
 ·rw [if_pos c]
  exact ifp c (ifp (by simp) (j0 _ (by simp)))
 ·rw [if_neg c]
  exact ifn c (j0 _ (by simp))
end
section
variable (l0 : List ByteArray) (l1 : List S92) (l2 l3 : List Int) (l4 : List S95) (l5 : List S97) (env : List Int) (dn : List Bool) (rs : List S80) (a : Int)
 (h0 : l0.length ≤ 4) (h1 : l1.length ≤ 6) (h2 : l2.length ≤ 140737488351232) (h3 : l3.length ≤ 2) (hd : dn.length = l1.length) (he : env.length = l3.length) (hrs : rs.length = l0.length) (hv : ∀ x ∈ rs, x.f0 < (rs.length : Int))
 (ha : 0 ≤ a) (h4 : ∀ x ∈ l4, 1 ≤ x.f3 ∧ x.f3 ≤ 4) (hen : ∀ x ∈ env, 0 ≤ x)
include h0 h1 h2 h3 hd he hrs hv ha h4 hen
theorem icand_loop (ns : List Int) (hnl : ns.length ≤ 4) (hns : ∀ v ∈ ns, 0 ≤ v ∧ v < (rs.length : Int) ∧ 0 ≤ linkI l1 a v ∧ linkI l1 a v < (l1.length : Int)) : ∀ (d i : Nat) (acc : List S80), i + d = ns.length → acc.length ≤ i + 2 → Ev (fun k => impl_candidates.l0 k a rs acc ns (ns.length : Int) (i : Int) l0 l1 l2 l3 l4 l5) ((ns.drop i).foldl (addC l1 l4 rs a) acc) := by
 have _u := And.intro h1 (And.intro h2 (And.intro h3 (And.intro hd (And.intro he hen))))
 intro d
 induction d with
 | zero =>
  intro i acc hi hacc
  refine stp (fun k => impl_candidates.l0.eq_2 ..) (ifn (by omega) ?_)
  rw [List.drop_of_length_le (by omega)]
  exact sm _
 | succ d ih =>
  intro i acc hi hacc
  have hlt : i < ns.length := by omega
  have hx : rd ns (i : Int) = ns[i] := getD_some (List.getElem?_eq_getElem hlt)
  obtain ⟨v0, v1, v2, v3⟩ := hns ns[i] (List.getElem_mem hlt)
  have hnx : ∀ acc : List S80, acc.length ≤ i + 1 + 2 → Ev (fun k => impl_candidates.l0 k a rs acc ns (ns.length : Int) (wrap64 ((i : Int) + 1)) l0 l1 l2 l3 l4 l5) ((ns.drop (i + 1)).foldl (addC l1 l4 rs a) acc) := fun acc h => by
   have := ih (i + 1) acc (by omega) h
   rwa [show ((i + 1 : Nat) : Int) = wrap64 ((i : Int) + 1) by rw [up (i := (i : Int)) (by omega) (by omega : (i : Int) < (ns.length : Int)) (by omega)]; omega] at this
  rw [List.drop_eq_getElem_cons hlt, List.foldl_cons]
  refine stp (fun k => impl_candidates.l0.eq_2 ..) (ifp (by omega) (ifp (by omega) (ifp (by omega) ?_)))
  rw [hx]
  generalize ns[i] = v at *
  refine ifp v0 (ifp v1 ?_)
  by_cases c3 : (rd_T80 rs v).f0 = -3
  ·rw [show addC l1 l4 rs a acc v = acc by unfold addC; rw [if_pos c3]]
   exact ifp c3 (stp (fun k => impl_candidates.j3.eq_2 ..) (ifp rfl (hnx acc (by omega))))
  refine ifn c3 (bnd (com_is rs (by omega) a v v1 hv) (stp (fun k => impl_candidates.j3.eq_2 ..) ?_))
  rw [show comB rs a (rs.length + 1) v = thrB rs a (rs.length + 1) v from com_thr rs a v ha v1 hv (rs.length + 1) 0 (by omega) (fun i hi => absurd hi (Nat.not_lt_zero _)) v1]
  cases ht : thrB rs a (rs.length + 1) v with
  | true =>
   rw [show addC l1 l4 rs a acc v = acc by unfold addC; rw [if_neg c3, if_pos ht]]
   exact ifp rfl (hnx acc (by omega))
  | false =>
   have hI : impl_imported.f 0 l0 l1 l2 l3 l4 l5 a v (rd_T80 rs v).f0 (rd_T80 rs v).f1 (rd_T80 rs v).f2 (rd_T80 rs v).f3 = some (resI v (wrap64 ((rd_T80 rs v).f2 + (rd_T92 l1 (linkI l1 a v)).f2)) (impO a v l4 100 (rd_T80 rs v).f3)) := by
    unfold impl_imported.f
    rw [if_pos ⟨v2, v3⟩, imp_eq a v l4 h4]
   refine ifn Bool.false_ne_true (ifp v0 (ifp v1 (bnd (g := fun k => impl_imported.f k l0 l1 l2 l3 l4 l5 a v (rd_T80 rs v).f0 (rd_T80 rs v).f1 (rd_T80 rs v).f2 (rd_T80 rs v).f3) (one hI) ?_)))
   cases hq : impO a v l4 100 (rd_T80 rs v).f3 with
   | none =>
    rw [show addC l1 l4 rs a acc v = acc by unfold addC; rw [if_neg c3, if_neg (by rw [ht]; exact Bool.false_ne_true), hq]]
    exact ifn (show ¬ false = true by decide) (hnx acc (by omega))
   | some q =>
    rw [show addC l1 l4 rs a acc v = acc ++ [⟨v, q.1, wrap64 ((rd_T80 rs v).f2 + (rd_T92 l1 (linkI l1 a v)).f2), q.2⟩] by unfold addC; rw [if_neg c3, if_neg (by rw [ht]; exact Bool.false_ne_true), hq]]
    exact ifp (show true = true from rfl) (ifp (by omega) (hnx _ (by rw [List.length_append, List.length_singleton]; omega)))
theorem icand_is : Ev (fun k => impl_candidates.f k l0 l1 l2 l3 l4 l5 a env dn rs) (cndL l0 l1 l2 l3 l4 env dn rs a) := by
 obtain ⟨n1, n2⟩ := nbs_ok l0 l1 l2 l3 env dn rs a h0 h1 h2 h3 hd he hrs hv
 have j1 : ∀ acc : List S80, acc.length ≤ 2 → Ev (fun k => impl_candidates.j1 k a dn rs acc l0 l1 l2 l3 l4 l5) ((nbL l1 a dn l0.length 0 []).foldl (addC l1 l4 rs a) acc) := fun acc hacc =>
  stp (fun k => impl_candidates.j1.eq_2 ..) (bnd (ineigh_is l0 l1 l2 l3 l4 l5 a dn h0 h1 hd) (icand_loop l0 l1 l2 l3 l4 l5 env dn rs a h0 h1 h2 h3 hd he hrs hv ha h4 hen _ n1 n2 (nbL l1 a dn l0.length 0 []).length 0 acc (by omega) (by omega)))
 have j0 : ∀ acc : List S80, acc.length ≤ 1 → Ev (fun k => impl_candidates.j0 k a env dn rs acc l0 l1 l2 l3 l4 l5) ((nbL l1 a dn l0.length 0 []).foldl (addC l1 l4 rs a) (extC l3 env a acc)) := fun acc hacc => by
  have hlt := idxE_lt l3 a
  refine stp (fun k => impl_candidates.j0.eq_2 ..) ?_
  unfold extC
  by_cases c : idxE l3 a ≥ 0
  ·rw [if_pos c]
   have hm : 0 ≤ rd env (idxE l3 a) := by
    have hk : (idxE l3 a).toNat < env.length := by omega
    rw [show rd env (idxE l3 a) = env[(idxE l3 a).toNat] from getD_some (List.getElem?_eq_getElem hk)]
    exact hen _ (List.getElem_mem hk)
   by_cases c2 : rd env (idxE l3 a) > 0
   ·rw [if_pos c2]
    refine bnd (a := ((-1 : Int), (100 : Int), (2 : Int), (rd env (idxE l3 a) == 2), true)) (evc (fun k => impl_outRoute.f.eq_1 ..) (bnd (index_is l3 (by omega) a) (ifn (by omega) (ifp c (ifp (by omega) (ifn (by omega) (sm _))))))) ?_
    exact ifp rfl (ifp (by omega) (j1 _ (by rw [List.length_append, List.length_singleton]; omega)))
   ·rw [if_neg c2]
    refine bnd (a := ((0 : Int), (0 : Int), (0 : Int), false, false)) (evc (fun k => impl_outRoute.f.eq_1 ..) (bnd (index_is l3 (by omega) a) (ifn (by omega) (ifp c (ifp (by omega) (ifp (by omega) (sm _))))))) ?_
    exact ifn Bool.false_ne_true (j1 _ (by omega))
  ·rw [if_neg c]
   refine bnd (a := ((0 : Int), (0 : Int), (0 : Int), false, false)) (evc (fun k => impl_outRoute.f.eq_1 ..) (bnd (index_is l3 (by omega) a) (ifp (by omega) (sm _)))) ?_
   exact ifn Bool.false_ne_true (j1 _ (by omega))
 refine evc (fun k => impl_candidates.f.eq_1 ..) (bnd (a := ((-2 : Int), (200 : Int), (0 : Int), false, decide (idxE l2 a ≥ 0))) (evc (fun k => impl_ownRoute.f.eq_1 ..) (bnd (evc (fun k => slices_Contains_int_int.f.eq_1 ..) (bnd (index_is l2 h2 a) (sm _))) (sm _))) ?_)
 unfold cndL ownC
 by_cases c : idxE l2 a ≥ 0
 ·rw [if_pos c]
  exact ifp (decide_eq_true c) (ifp (by simp) (j0 _ (by simp)))
 ·rw [if_neg c]
  exact ifn (by simpa using c) (j0 _ (by simp))
end
def envC (l0 : List ByteArray) (l1 : List S92) (l2 l3 : List Int) (l4 : List S95) (l5 : List S97) (env : List Int) (dn : List Bool) : Int :=
 if netB l0 l1 l2 l3 l4 l5 = true then (if aroundB l3.length l1.length env dn.length = true then 0 else 5) else 1
theorem senv_is (l0 : List ByteArray) (l1 : List S92) (l2 l3 : List Int) (l4 : List S95) (l5 : List S97) (hs : ∀ x ∈ l0, x.size ≤ 140737488351232) (h2 : l2.length ≤ 140737488351232) (h3 : l3.length ≤ 140737488351232) (env : List Int) (dn : List Bool) : Ev (fun k => spec_l07Env.f k l0 l1 l2 l3 l4 l5 env dn) (if (env.length : Int) > 4096 ∨ (dn.length : Int) > 4096 then 2 else envC l0 l1 l2 l3 l4 l5 env dn) := by
 refine evc (fun k => spec_l07Env.f.eq_1 ..) ?_
 by_cases b1 : (env.length : Int) > 4096
 ·rw [if_pos (Or.inl b1)]
  exact ifp b1 (stp (fun k => spec_l07Env.j0.eq_2 ..) (ifp rfl (sm _)))
 refine ifn b1 (stp (fun k => spec_l07Env.j0.eq_2 ..) ?_)
 by_cases b2 : (dn.length : Int) > 4096
 ·rw [if_pos (Or.inr b2)]
  exact ifp (decide_eq_true b2) (sm _)
 rw [if_neg (fun h => h.elim b1 b2)]
 refine ifn (by simpa using b2) (bnd (specNet_is l0 l1 l2 l3 l4 l5 hs h2 h3) ?_)
 unfold envC
 cases netB l0 l1 l2 l3 l4 l5 with
 | false => exact ifn Bool.false_ne_true (sm _)
 | true =>
  rw [if_pos rfl]
  refine ifp rfl ?_
  unfold aroundB
  by_cases e1 : env.length = l3.length
  ·rw [decide_eq_true e1, Bool.true_and]
   refine ifp (by omega) (stp (fun k => spec_l07Env.j1.eq_2 ..) ?_)
   by_cases e2 : dn.length = l1.length
   ·rw [decide_eq_true e2, Bool.true_and]
    refine ifn (by simp; omega) ?_
    have key : ∀ (d i : Nat), i + d = env.length → Ev (fun k => spec_l07Env.l0 k env (i : Int)) (if (!((env.drop i).any fun x => !(decide (0 ≤ x) && decide (x ≤ 2)))) = true then 0 else 5) := by
     intro d
     induction d with
     | zero =>
      intro i hi
      rw [List.drop_of_length_le (by omega)]
      exact stp (fun k => spec_l07Env.l0.eq_2 ..) (ifn (by omega) (sm _))
     | succ d ih =>
      intro i hi
      have hlt : i < env.length := by omega
      have hx : rd env (i : Int) = env[i] := getD_some (List.getElem?_eq_getElem hlt)
      have hnx := ih (i + 1) (by omega)
      rw [show ((i + 1 : Nat) : Int) = (i : Int) + 1 by omega] at hnx
      refine stp (fun k => spec_l07Env.l0.eq_2 ..) (ifp (by omega) (ifp (by omega) ?_))
      rw [hx, up (i := (i : Int)) (by omega) (by omega : (i : Int) < (env.length : Int)) (by omega), List.drop_eq_getElem_cons hlt, List.any_cons]
      refine bnd0 (sin_is _ _ _) ?_
      unfold inB
      cases (decide (0 ≤ env[i]) && decide (env[i] ≤ 2)) with
      | false => exact ifn Bool.false_ne_true (sm _)
      | true => exact ifp rfl hnx
    have := key env.length 0 (by omega)
    rwa [List.drop_zero] at this
   ·rw [decide_eq_false e2]
    exact ifp (by simp; omega) (sm _)
  ·rw [decide_eq_false e1]
   exact ifn (by omega) (stp (fun k => spec_l07Env.j1.eq_2 ..) (ifp rfl (sm _)))
def neR (x y : S80) : Bool := (!(x.f0 == y.f0) || (!(x.f1 == y.f1) || (!(x.f2 == y.f2) || (!(x.f3 == y.f3)))))
def stbB (g : Nat → S80) (rs : List S80) : Nat → Nat → Bool
 | 0, _ => true
 | d + 1, i => if neR (g i) (rd_T80 rs (i : Int)) = true then false else stbB g rs d (i + 1)
section
variable (l0 : List ByteArray) (l1 : List S92) (l2 l3 : List Int) (l4 : List S95) (l5 : List S97) (env : List Int) (dn : List Bool) (rs : List S80)
 (h0 : l0.length ≤ 4) (h1 : l1.length ≤ 6) (h2 : l2.length ≤ 140737488351232) (h3 : l3.length ≤ 2) (hd : dn.length = l1.length) (he : env.length = l3.length) (hrs : rs.length = l0.length) (hv : ∀ x ∈ rs, x.f0 < (rs.length : Int))
include h0 h1 h2 h3 hd he hrs hv
theorem sstable_is : Ev (fun k => spec_l07Stable.f k l0 l1 l2 l3 l4 l5 env dn rs) (stbB (fun i => bestL (cndL l0 l1 l2 l3 l4 env dn rs (i : Int))) rs rs.length 0) := by
 refine evc (fun k => spec_l07Stable.f.eq_1 ..) ?_
 have key : ∀ (d i : Nat), i + d = rs.length → Ev (fun k => spec_l07Stable.l0 k env dn rs (i : Int) l0 l1 l2 l3 l4 l5) (stbB (fun i => bestL (cndL l0 l1 l2 l3 l4 env dn rs (i : Int))) rs d i) := by
  intro d
  induction d with
  | zero => intro i hi; exact stp (fun k => spec_l07Stable.l0.eq_2 ..) (ifn (by omega) (sm _))
  | succ d ih =>
   intro i hi
   obtain ⟨c1, c2⟩ := cnd_ok l0 l1 l2 l3 l4 env dn rs (i : Int)
   have hnx := ih (i + 1) (by omega)
   rw [show ((i + 1 : Nat) : Int) = wrap64 ((i : Int) + 1) by rw [up (i := (i : Int)) (by omega) (by omega : (i : Int) < (rs.length : Int)) (by omega)]; omega] at hnx
   refine stp (fun k => spec_l07Stable.l0.eq_2 ..) (ifp (by omega) (bnd (scand_is l0 l1 l2 l3 l4 l5 env dn rs (i : Int) h0 h1 h2 h3 hd he hrs hv) (bnd (sbest_is _ (by omega) c2) (ifp (by omega) ?_))))
   rw [stbB]
   by_cases hn : neR (bestL (cndL l0 l1 l2 l3 l4 env dn rs (i : Int))) (rd_T80 rs (i : Int)) = true
   ·rw [if_pos hn]; exact ifp hn (sm _)
   ·rw [if_neg hn]; exact ifn hn hnx
 exact key rs.length 0 (by omega)
end
section
variable (l0 : List ByteArray) (l1 : List S92) (l2 l3 : List Int) (l4 : List S95) (l5 : List S97) (env : List Int) (dn : List Bool) (rs : List S80)
 (h0 : l0.length ≤ 4) (h1 : l1.length ≤ 6) (h2 : l2.length ≤ 140737488351232) (h3 : l3.length ≤ 2) (hd : dn.length = l1.length) (he : env.length = l3.length) (hrs : rs.length = l0.length) (hv : ∀ x ∈ rs, x.f0 < (rs.length : Int))
 (h4 : ∀ x ∈ l4, 1 ≤ x.f3 ∧ x.f3 ≤ 4) (hen : ∀ x ∈ env, 0 ≤ x)
include h0 h1 h2 h3 hd he hrs hv h4 hen
theorem ibests_is : ∃ L : List S80, Ev (fun k => impl_bestRoutes.f k l0 l1 l2 l3 l4 l5 env dn rs) L ∧ L.length = l0.length ∧ ∀ j : Nat, j < l0.length → L[j]? = some (bestL (cndL l0 l1 l2 l3 l4 env dn rs (j : Int))) := by
 have key : ∀ (d i : Nat) (acc : List S80), i + d = l0.length → acc.length = i → (∀ j : Nat, j < i → acc[j]? = some (bestL (cndL l0 l1 l2 l3 l4 env dn rs (j : Int)))) → ∃ L : List S80, Ev (fun k => impl_bestRoutes.l0 k env dn rs acc (l0.length : Int) (i : Int) l0 l1 l2 l3 l4 l5) L ∧ L.length = l0.length ∧ ∀ j : Nat, j < l0.length → L[j]? = some (bestL (cndL l0 l1 l2 l3 l4 env dn rs (j : Int))) := by
  intro d
  induction d with
  | zero => intro i acc hi hacc hj; exact ⟨acc, stp (fun k => impl_bestRoutes.l0.eq_2 ..) (ifn (by omega) (sm _)), by omega, fun j h => hj j (by omega)⟩
  | succ d ih =>
   intro i acc hi hacc hj
   obtain ⟨c1, c2⟩ := cnd_ok l0 l1 l2 l3 l4 env dn rs (i : Int)
   obtain ⟨L, q1, q2, q3⟩ := ih (i + 1) (acc ++ [bestL (cndL l0 l1 l2 l3 l4 env dn rs (i : Int))]) (by omega) (by simp [hacc]) (fun j h => by
    by_cases e : j = i
    ·subst e; rw [List.getElem?_append_right (by omega), hacc, Nat.sub_self]; rfl
    ·rw [List.getElem?_append_left (by omega)]; exact hj j (by omega))
   rw [show ((i + 1 : Nat) : Int) = wrap64 ((i : Int) + 1) by rw [up (i := (i : Int)) (by omega) (by omega : (i : Int) < (l0.length : Int)) (by omega)]; omega] at q1
   refine ⟨L, stp (fun k => impl_bestRoutes.l0.eq_2 ..) (ifp (by omega) (bnd (icand_is l0 l1 l2 l3 l4 l5 env dn rs (i : Int) h0 h1 h2 h3 hd he hrs hv (by omega) h4 hen) ?_)), q2, q3⟩
   cases hc : cndL l0 l1 l2 l3 l4 env dn rs (i : Int) with
   | nil =>
    rw [hc] at q1
    exact ifn (by simp) (ifp (by omega) q1)
   | cons x r =>
    rw [hc] at q1 c1
    exact ifp (by simp) (bnd (ibest_is x r (by omega)) (ifp (by omega) q1))
 exact key l0.length 0 [] (by omega) rfl (fun j h => absurd h (Nat.not_lt_zero _))
theorem istable_is : Ev (fun k => impl_isStable.f k l0 l1 l2 l3 l4 l5 env dn rs) (stbB (fun i => bestL (cndL l0 l1 l2 l3 l4 env dn rs (i : Int))) rs rs.length 0) := by
 obtain ⟨L, q1, q2, q3⟩ := ibests_is l0 l1 l2 l3 l4 l5 env dn rs h0 h1 h2 h3 hd he hrs hv h4 hen
 refine evc (fun k => impl_isStable.f.eq_1 ..) (bnd q1 (bnd (evc (fun k => impl_Route.f.eq_1 ..) (ifp (by omega) ?_)) (sm _)))
 have key : ∀ (d i : Nat), i + d = rs.length → Ev (fun k => impl_Route.l0 k L rs (L.length : Int) (i : Int)) (stbB (fun i => bestL (cndL l0 l1 l2 l3 l4 env dn rs (i : Int))) rs d i) := by
  intro d
  induction d with
  | zero => intro i hi; exact stp (fun k => impl_Route.l0.eq_2 ..) (ifn (by omega) (sm _))
  | succ d ih =>
   intro i hi
   have hnx := ih (i + 1) (by omega)
   rw [show ((i + 1 : Nat) : Int) = wrap64 ((i : Int) + 1) by rw [up (i := (i : Int)) (by omega) (by omega : (i : Int) < (rs.length : Int)) (by omega)]; omega] at hnx
   have hx : rd_T80 L (i : Int) = bestL (cndL l0 l1 l2 l3 l4 env dn rs (i : Int)) := getD_some (q3 i (by omega))
   refine stp (fun k => impl_Route.l0.eq_2 ..) (ifp (by omega) (ifp (by omega) (ifp (by omega) (ifp (by omega) ?_))))
   rw [hx, stbB]
   by_cases hn : neR (bestL (cndL l0 l1 l2 l3 l4 env dn rs (i : Int))) (rd_T80 rs (i : Int)) = true
   ·rw [if_pos hn]; exact ifp hn (sm _)
   ·rw [if_neg hn]; exact ifn hn hnx
 exact key rs.length 0 (by omega)
end
theorem impB_mem (all : List S92) (l : List S95) (h : (!(l.any (impBad all))) = true) : ∀ x ∈ l, 1 ≤ x.f3 ∧ x.f3 ≤ 4 := fun x hx => by
 have h1 : impBad all x = false := by
  cases hb : impBad all x with
  | false => rfl
  | true => rw [List.any_eq_true.2 ⟨x, hx, hb⟩] at h; cases h
 unfold impBad importB inB at h1
 simp only [Bool.or_eq_false_iff, Bool.not_eq_false', Bool.and_eq_true, decide_eq_true_eq] at h1
 exact h1.2.2.1
theorem netB_more {l0 : List ByteArray} {l1 : List S92} {l2 l3 : List Int} {l4 : List S95} {l5 : List S97} (h : netB l0 l1 l2 l3 l4 l5 = true) : linksB l0.length l1 l1 0 = true ∧ ∀ x ∈ l4, 1 ≤ x.f3 ∧ x.f3 ≤ 4 := by
 unfold netB at h
 simp only [Bool.and_eq_true] at h
 exact ⟨h.2.2.2.2.2.1, impB_mem l1 l4 h.2.2.2.2.2.2.1⟩
theorem around_more {e n : Nat} {env : List Int} {d : Nat} (h : aroundB e n env d = true) : env.length = e ∧ d = n ∧ ∀ x ∈ env, 0 ≤ x := by
 unfold aroundB at h
 simp only [Bool.and_eq_true, decide_eq_true_eq, Bool.not_eq_true'] at h
 refine ⟨h.1, h.2.1, fun x hx => ?_⟩
 have h3 := List.any_eq_false.1 h.2.2 x hx
 simp at h3
 omega
theorem icode_is (l0 : List ByteArray) (l1 : List S92) (l2 l3 : List Int) (l4 : List S95) (l5 : List S97) (hs : ∀ x ∈ l0, x.size ≤ 140737488351232) (h2 : l2.length ≤ 140737488351232) (h3 : l3.length ≤ 140737488351232) (env : List Int) (dn : List Bool) (rs : List S80) (hand : Bool) (b : Bool) (hb : hand = true → impl_areRoutes.f l0 l1 l2 l3 l4 l5 rs = some b) :
  Ev (fun k => impl_routesCode.f k l0 l1 l2 l3 l4 l5 env dn rs hand) (if ((env.length : Int) > 4096 ∨ (dn.length : Int) > 4096) ∨ (rs.length : Int) > 4096 then 2 else if envC l0 l1 l2 l3 l4 l5 env dn = 0 then (if hand = true then (if b = true then 0 else 1) else 0) else envC l0 l1 l2 l3 l4 l5 env dn) := by
 refine evc (fun k => impl_routesCode.f.eq_1 ..) ?_
 by_cases b1 : (env.length : Int) > 4096
 ·rw [if_pos (Or.inl (Or.inl b1))]
  exact ifp b1 (stp (fun k => impl_routesCode.j0.eq_2 ..) (ifp rfl (sm _)))
 refine ifn b1 ?_
 by_cases b2 : (dn.length : Int) > 4096
 ·rw [if_pos (Or.inl (Or.inr b2))]
  exact ifp b2 (stp (fun k => impl_routesCode.j0.eq_2 ..) (ifp rfl (sm _)))
 refine ifn b2 (stp (fun k => impl_routesCode.j0.eq_2 ..) ?_)
 by_cases b3 : (rs.length : Int) > 4096
 ·rw [if_pos (Or.inr b3)]
  exact ifp (decide_eq_true b3) (sm _)
 rw [if_neg (show ¬ (((env.length : Int) > 4096 ∨ (dn.length : Int) > 4096) ∨ (rs.length : Int) > 4096) from fun h => h.elim (fun h => h.elim b1 b2) b3)]
 refine ifn (by simpa using b3) (bnd (implNet_is l0 l1 l2 l3 l4 l5 hs h2 h3) ?_)
 unfold envC
 cases netB l0 l1 l2 l3 l4 l5 with
 | false => exact ifn Bool.false_ne_true (sm _)
 | true =>
  refine ifp rfl (bnd0 rfl ?_)
  cases aroundB l3.length l1.length env dn.length with
  | false => exact ifn Bool.false_ne_true (sm _)
  | true =>
   refine ifp rfl ?_
   cases hand with
   | false => exact ifn Bool.false_ne_true (sm _)
   | true =>
    refine ifp rfl (bnd0 (hb rfl) ?_)
    cases b with
    | false => exact ifn Bool.false_ne_true (sm _)
    | true => exact ifp rfl (sm _)
theorem markL {α : Type} (c : Nat) (L : List α → Int → Int → Nat → Option (Int × List α)) (hend : ∀ x k, Ev (L x k (x.length : Int)) (k, x))
    (hstep : ∀ (x : List α) (k : Int) (i : Nat), i < x.length → x.length ≤ 140737488351232 → 0 ≤ k → k ≤ 1000000000000000000 → ∃ y : List α, y.length = x.length ∧ ∀ r, Ev (L y (k + (c : Int)) ((i : Int) + 1)) r → Ev (L x k (i : Int)) r) (l : List α) (a : Int) (hl : l.length ≤ 140737488351232) (h0 : 0 ≤ a) (h1 : a + ((c * l.length : Nat) : Int) ≤ 1000000000000000000) : ∃ m, Ev (L l a 0) (a + ((c * l.length : Nat) : Int), m) := by
  have key : ∀ (d i : Nat) (x : List α) (k : Int), i + d = x.length → x.length ≤ 140737488351232 → 0 ≤ k → k + ((c * d : Nat) : Int) ≤ 1000000000000000000 → ∃ m, Ev (L x k (i : Int)) (k + ((c * d : Nat) : Int), m) := by
    intro d
    induction d with
    | zero =>
      intro i x k hi hx h0 h1
      obtain rfl : i = x.length := by omega
      exact ⟨x, by simpa using hend x k⟩
    | succ d ih =>
      intro i x k hi hx h0 h1
      have e : c * (d + 1) = c * d + c := Nat.mul_succ c d
      rw [e] at h1 ⊢
      have hc0 : (0 : Int) ≤ ((c * d : Nat) : Int) := Int.natCast_nonneg _
      have hc1 : (0 : Int) ≤ (c : Int) := Int.natCast_nonneg _
      obtain ⟨y, hy, hs⟩ := hstep x k i (by omega) hx h0 (by omega)
      obtain ⟨m, hm⟩ := ih (i + 1) y (k + (c : Int)) (by omega) (by omega) (by omega) (by omega)
      refine ⟨m, hs _ ?_⟩
      rw [show ((i + 1 : Nat) : Int) = (i : Int) + 1 by omega] at hm
      rw [show k + ((c * d + c : Nat) : Int) = k + (c : Int) + ((c * d : Nat) : Int) by omega]
      exact hm
  obtain ⟨m, hm⟩ := key l.length 0 l a (by omega) hl h0 h1
  exact ⟨m, hm⟩
theorem markText_is (a : Int) (h0 : 0 ≤ a) (h1 : a ≤ 1000000000000000000) : ∃ s, Ev (fun k => laws_markText.f k a) s := by
  have key : ∀ (n : Nat) (x : Int) (s : ByteArray), x.toNat ≤ n → 0 ≤ x → x ≤ 1000000000000000000 → s.size + x.toNat ≤ 2000000000000000000 → ∃ r, Ev (fun k => laws_markText.l0 k x s) r := by
    intro n
    induction n with
    | zero =>
      intro x s hn hx hx1 hs
      exact ⟨_, stp (fun k => laws_markText.l0.eq_2 ..) (ifn (by omega) (ifp (by omega) (sm _)))⟩
    | succ n ih =>
      intro x s hn hx hx1 hs
      by_cases hp : x > 0
      · have ed : Int.tdiv x 10 = x / 10 := Int.tdiv_eq_ediv_of_nonneg hx
        have ew : wrap64 (Int.tdiv x 10) = x / 10 := by rw [ed]; exact w64 (by omega) (by omega)
        have hsz : (strOfNums [wrap64 (48 + (Int.tmod x 10)) % 256]).size = 1 := rfl
        obtain ⟨r, hr⟩ := ih (x / 10) (strOfNums [wrap64 (48 + (Int.tmod x 10)) % 256] ++ s) (by omega) (by omega) (by omega) (by rw [ByteArray.size_append, hsz]; omega)
        refine ⟨r, stp (fun k => laws_markText.l0.eq_2 ..) (ifp hp (bnd0 rfl (ifp (by rw [hsz]; omega) ?_)))⟩
        rw [ew]
        exact hr
      · exact ⟨_, stp (fun k => laws_markText.l0.eq_2 ..) (ifn hp (ifp (by omega) (sm _)))⟩
  by_cases hz : a ≤ 0
  · exact ⟨_, evc (fun k => laws_markText.f.eq_1 ..) (ifp hz (sm _))⟩
  · obtain ⟨r, hr⟩ := key a.toNat a ⟨#[]⟩ (Nat.le_refl _) h0 h1 (by show 0 + _ ≤ _; omega)
    exact ⟨r, evc (fun k => laws_markText.f.eq_1 ..) (ifn hz hr)⟩
theorem markStr_is (l : List ByteArray) (a : Int) (hl : l.length ≤ 140737488351232) (h0 : 0 ≤ a) (h1 : a + ((1 * l.length : Nat) : Int) ≤ 1000000000000000000) : ∃ m, Ev (fun k => laws_markStringS.f k l a) (a + ((1 * l.length : Nat) : Int), m) := by
  obtain ⟨m, hm⟩ := markL 1 (fun x a i k => laws_markStringS.l0 k x a i) (fun x k => stp (fun k => laws_markStringS.l0.eq_2 ..) (ifn (by omega) (sm _))) (fun x k i hi hx hk hk1 => by
    obtain ⟨s, hs⟩ := markText_is k hk hk1
    refine ⟨x.set i s, by simp, fun r hr => stp (fun k => laws_markStringS.l0.eq_2 ..) (ifp (by omega) (bnd hs (ifp (by omega) ?_)))⟩
    rw [up (by omega) (by omega : (i : Int) < (x.length : Int)) (by omega), w64 (x := k + 1) (by omega) (by omega), Int.toNat_natCast]
    exact hr) l a hl h0 h1
  exact ⟨m, evc (fun k => laws_markStringS.f.eq_1 ..) hm⟩
theorem markInts_is (l : List Int) (a : Int) (hl : l.length ≤ 140737488351232) (h0 : 0 ≤ a) (h1 : a + ((1 * l.length : Nat) : Int) ≤ 1000000000000000000) : ∃ m, Ev (fun k => laws_markIntS.f k l a) (a + ((1 * l.length : Nat) : Int), m) := by
  obtain ⟨m, hm⟩ := markL 1 (fun x a i k => laws_markIntS.l0 k x a i) (fun x k => stp (fun k => laws_markIntS.l0.eq_2 ..) (ifn (by omega) (sm _))) (fun x k i hi hx hk hk1 => by
    refine ⟨x.set i k, by simp, fun r hr => stp (fun k => laws_markIntS.l0.eq_2 ..) (ifp (by omega) (ifp (by omega) ?_))⟩
    rw [up (by omega) (by omega : (i : Int) < (x.length : Int)) (by omega), w64 (x := k + 1) (by omega) (by omega), Int.toNat_natCast]
    exact hr) l a hl h0 h1
  exact ⟨m, evc (fun k => laws_markIntS.f.eq_1 ..) hm⟩
theorem markBools_is (l : List Bool) (a : Int) (hl : l.length ≤ 140737488351232) (h0 : 0 ≤ a) (h1 : a + ((1 * l.length : Nat) : Int) ≤ 1000000000000000000) : ∃ m, Ev (fun k => laws_markBoolS.f k l a) (a + ((1 * l.length : Nat) : Int), m) := by
  obtain ⟨m, hm⟩ := markL 1 (fun x a i k => laws_markBoolS.l0 k x a i) (fun x k => stp (fun k => laws_markBoolS.l0.eq_2 ..) (ifn (by omega) (sm _))) (fun x k i hi hx hk hk1 => by
    refine ⟨x.set i ((Int.tmod k 3) == 0), by simp, fun r hr => stp (fun k => laws_markBoolS.l0.eq_2 ..) (ifp (by omega) (ifp (by omega) ?_))⟩
    rw [up (by omega) (by omega : (i : Int) < (x.length : Int)) (by omega), w64 (x := k + 1) (by omega) (by omega), Int.toNat_natCast]
    exact hr) l a hl h0 h1
  exact ⟨m, evc (fun k => laws_markBoolS.f.eq_1 ..) hm⟩
theorem w1 {k : Int} (h0 : 0 ≤ k) (h1 : k ≤ 1000000000000000010) : wrap64 (k + 1) = k + 1 := w64 (by omega) (by omega)
theorem markLinks_is (l : List S92) (a : Int) (hl : l.length ≤ 140737488351232) (h0 : 0 ≤ a) (h1 : a + ((3 * l.length : Nat) : Int) ≤ 1000000000000000000) : ∃ m, Ev (fun k => laws_markLinkS.f k l a) (a + ((3 * l.length : Nat) : Int), m) := by
  obtain ⟨m, hm⟩ := markL 3 (fun x a i k => laws_markLinkS.l0 k x a i) (fun x k => stp (fun k => laws_markLinkS.l0.eq_2 ..) (ifn (by omega) (sm _))) (fun x k i hi hx hk hk1 => by
    refine Exists.intro ?y (And.intro ?ln ?hs)
    case hs =>
      intro r hr
      refine stp (fun k => laws_markLinkS.l0.eq_2 ..) (ifp (by omega) (ifp (by omega) (bnd0 rfl (bnd0 rfl ?_))))
      rw [up (by omega) (by omega : (i : Int) < (x.length : Int)) (by omega)]
      rw [w1 (k := k) (by omega) (by omega), w1 (k := k + 1) (by omega) (by omega), w1 (k := k + 1 + 1) (by omega) (by omega)]
      rw [show k + 1 + 1 + 1 = k + ((3 : Nat) : Int) by omega]
      exact hr
    case ln => simp) l a hl h0 h1
  exact ⟨m, evc (fun k => laws_markLinkS.f.eq_1 ..) hm⟩
theorem markImports_is (l : List S95) (a : Int) (hl : l.length ≤ 140737488351232) (h0 : 0 ≤ a) (h1 : a + ((5 * l.length : Nat) : Int) ≤ 1000000000000000000) : ∃ m, Ev (fun k => laws_markImportS.f k l a) (a + ((5 * l.length : Nat) : Int), m) := by
  obtain ⟨m, hm⟩ := markL 5 (fun x a i k => laws_markImportS.l0 k x a i) (fun x k => stp (fun k => laws_markImportS.l0.eq_2 ..) (ifn (by omega) (sm _))) (fun x k i hi hx hk hk1 => by
    refine Exists.intro ?y (And.intro ?ln ?hs)
    case hs =>
      intro r hr
      refine stp (fun k => laws_markImportS.l0.eq_2 ..) (ifp (by omega) (ifp (by omega) (bnd0 rfl (bnd0 rfl (bnd0 rfl (bnd0 rfl ?_))))))
      rw [up (by omega) (by omega : (i : Int) < (x.length : Int)) (by omega)]
      rw [w1 (k := k) (by omega) (by omega), w1 (k := k + 1) (by omega) (by omega), w1 (k := k + 1 + 1) (by omega) (by omega), w1 (k := k + 1 + 1 + 1) (by omega) (by omega), w1 (k := k + 1 + 1 + 1 + 1) (by omega) (by omega)]
      rw [show k + 1 + 1 + 1 + 1 + 1 = k + ((5 : Nat) : Int) by omega]
      exact hr
    case ln => simp) l a hl h0 h1
  exact ⟨m, evc (fun k => laws_markImportS.f.eq_1 ..) hm⟩
theorem markFilters_is (l : List S97) (a : Int) (hl : l.length ≤ 140737488351232) (h0 : 0 ≤ a) (h1 : a + ((4 * l.length : Nat) : Int) ≤ 1000000000000000000) : ∃ m, Ev (fun k => laws_markFilterS.f k l a) (a + ((4 * l.length : Nat) : Int), m) := by
  obtain ⟨m, hm⟩ := markL 4 (fun x a i k => laws_markFilterS.l0 k x a i) (fun x k => stp (fun k => laws_markFilterS.l0.eq_2 ..) (ifn (by omega) (sm _))) (fun x k i hi hx hk hk1 => by
    refine Exists.intro ?y (And.intro ?ln ?hs)
    case hs =>
      intro r hr
      refine stp (fun k => laws_markFilterS.l0.eq_2 ..) (ifp (by omega) (ifp (by omega) (bnd0 rfl (bnd0 rfl (bnd0 rfl ?_)))))
      rw [up (by omega) (by omega : (i : Int) < (x.length : Int)) (by omega)]
      rw [w1 (k := k) (by omega) (by omega), w1 (k := k + 1) (by omega) (by omega), w1 (k := k + 1 + 1) (by omega) (by omega), w1 (k := k + 1 + 1 + 1) (by omega) (by omega)]
      rw [show k + 1 + 1 + 1 + 1 = k + ((4 : Nat) : Int) by omega]
      exact hr
    case ln => simp) l a hl h0 h1
  exact ⟨m, evc (fun k => laws_markFilterS.f.eq_1 ..) hm⟩
theorem markNet_is (l0 : List ByteArray) (l1 : List S92) (l2 l3 : List Int) (l4 : List S95) (l5 : List S97) (h0 : l0.length ≤ 140737488351232) (h1 : l1.length ≤ 140737488351232) (h2 : l2.length ≤ 140737488351232) (h3 : l3.length ≤ 140737488351232) (h4 : l4.length ≤ 140737488351232) (h5 : l5.length ≤ 140737488351232) : ∃ r : Int × List ByteArray × (List S92) × List Int × List Int × (List S95) × (List S97), Ev (fun k => laws_markNet.f k l0 l1 l2 l3 l4 l5 1) r ∧ 0 ≤ r.1 ∧ r.1 ≤ 10000000000000000 := by
  obtain ⟨m0, e0⟩ := markStr_is l0 1 h0 (by omega) (by omega)
  obtain ⟨m1, e1⟩ := markLinks_is l1 (1 + ((1 * l0.length : Nat) : Int)) h1 (by omega) (by omega)
  obtain ⟨m2, e2⟩ := markInts_is l2 ((1 + ((1 * l0.length : Nat) : Int)) + ((3 * l1.length : Nat) : Int)) h2 (by omega) (by omega)
  obtain ⟨m3, e3⟩ := markInts_is l3 (((1 + ((1 * l0.length : Nat) : Int)) + ((3 * l1.length : Nat) : Int)) + ((1 * l2.length : Nat) : Int)) h3 (by omega) (by omega)
  obtain ⟨m4, e4⟩ := markImports_is l4 ((((1 + ((1 * l0.length : Nat) : Int)) + ((3 * l1.length : Nat) : Int)) + ((1 * l2.length : Nat) : Int)) + ((1 * l3.length : Nat) : Int)) h4 (by omega) (by omega)
  obtain ⟨m5, e5⟩ := markFilters_is l5 (((((1 + ((1 * l0.length : Nat) : Int)) + ((3 * l1.length : Nat) : Int)) + ((1 * l2.length : Nat) : Int)) + ((1 * l3.length : Nat) : Int)) + ((5 * l4.length : Nat) : Int)) h5 (by omega) (by omega)
  refine ⟨_, evc (fun k => laws_markNet.f.eq_1 ..) (bnd e0 (bnd e1 (bnd e2 (bnd e3 (bnd e4 (bnd e5 (sm _))))))), ?_, ?_⟩
  · show 0 ≤ _
    omega
  · show _ ≤ _
    omega
def mkR (k : Int) : S80 := ⟨k, k + 1, k + 1 + 1, (Int.tmod (k + 1 + 1 + 1) 3) == 0⟩
theorem rd_set80 {x : List S80} {i : Nat} {a : S80} (h : i < x.length) : rd_T80 (x.set i a) (i : Int) = a := by
  unfold rd_T80
  simp [List.getD, h]
theorem rd_setne80 {x : List S80} {i j : Nat} {a : S80} (h : j ≠ i) : rd_T80 (x.set i a) (j : Int) = rd_T80 x (j : Int) := by
  unfold rd_T80
  rw [Int.toNat_natCast, List.getD_eq_getElem?_getD, List.getElem?_set_ne (by omega), ← List.getD_eq_getElem?_getD]
theorem markR_step (x : List S80) (k : Int) (i : Nat) (hi : i < x.length) (hx : x.length ≤ 140737488351232) (h0 : 0 ≤ k) (h1 : k ≤ 1000000000000000000) (r : Int × List S80) (hr : Ev (fun q => laws_markRouteS.l0 q (x.set i (mkR k)) (k + 4) ((i : Int) + 1)) r) : Ev (fun q => laws_markRouteS.l0 q x k (i : Int)) r := by
  refine stp (fun k => laws_markRouteS.l0.eq_2 ..) (ifp (by omega) (ifp (by omega) (bnd0 rfl (bnd0 rfl (bnd0 rfl ?_)))))
  rw [up (by omega) (by omega : (i : Int) < (x.length : Int)) (by omega)]
  rw [w1 (k := k) (by omega) (by omega), w1 (k := k + 1) (by omega) (by omega), w1 (k := k + 1 + 1) (by omega) (by omega), w1 (k := k + 1 + 1 + 1) (by omega) (by omega)]
  simp only [Int.toNat_natCast, List.set_set, rd_set80 hi]
  rw [show k + 1 + 1 + 1 + 1 = k + 4 by omega]
  exact hr
theorem markR_is (l : List S80) (k0 : Int) (hl : l.length ≤ 140737488351232) (h0 : 0 ≤ k0) (h1 : k0 + 4 * (l.length : Int) ≤ 1000000000000000000) : ∃ m : List S80, m.length = l.length ∧ (∀ j : Nat, j < m.length → rd_T80 m (j : Int) = mkR (k0 + 4 * (j : Int))) ∧ Ev (fun k => laws_markRouteS.f k l k0) (k0 + 4 * (l.length : Int), m) := by
  have key : ∀ (d i : Nat) (x : List S80), i + d = l.length → x.length = l.length → (∀ j : Nat, j < i → rd_T80 x (j : Int) = mkR (k0 + 4 * (j : Int))) → ∃ m : List S80, m.length = l.length ∧ (∀ j : Nat, j < m.length → rd_T80 m (j : Int) = mkR (k0 + 4 * (j : Int))) ∧ Ev (fun k => laws_markRouteS.l0 k x (k0 + 4 * (i : Int)) (i : Int)) (k0 + 4 * (l.length : Int), m) := by
    intro d
    induction d with
    | zero =>
      intro i x hi hx hj
      obtain rfl : i = l.length := by omega
      exact ⟨x, hx, by rw [hx]; exact hj, stp (fun k => laws_markRouteS.l0.eq_2 ..) (ifn (by omega) (sm _))⟩
    | succ d ih =>
      intro i x hi hx hj
      obtain ⟨m, m1, m2, m3⟩ := ih (i + 1) (x.set i (mkR (k0 + 4 * (i : Int)))) (by omega) (by simpa using hx) (by
        intro j hlt
        by_cases e : j = i
        · subst e; exact rd_set80 (by omega)
        · rw [rd_setne80 e]; exact hj j (by omega))
      refine ⟨m, m1, m2, markR_step x _ i (by omega) (by omega) (by omega) (by omega) _ ?_⟩
      rw [show ((i + 1 : Nat) : Int) = (i : Int) + 1 by omega] at m3
      rw [show k0 + 4 * (i : Int) + 4 = k0 + 4 * ((i : Int) + 1) by omega]
      exact m3
  obtain ⟨m, m1, m2, m3⟩ := key l.length 0 l (by omega) rfl (fun j hj => absurd hj (Nat.not_lt_zero _))
  refine ⟨m, m1, m2, evc (fun k => laws_markRouteS.f.eq_1 ..) ?_⟩
  simpa using m3
theorem heldR_is (m : List S80) (k0 : Int) (hl : m.length ≤ 140737488351232) (h0 : 0 ≤ k0) (h1 : k0 + 4 * (m.length : Int) ≤ 1000000000000000000) (hm : ∀ j : Nat, j < m.length → rd_T80 m (j : Int) = mkR (k0 + 4 * (j : Int))) : Ev (fun k => laws_heldRouteS.f k m k0) (k0 + 4 * (m.length : Int)) := by
  have key : ∀ (d i : Nat), i + d = m.length → Ev (fun k => laws_heldRouteS.l0 k m (k0 + 4 * (i : Int)) (i : Int)) (k0 + 4 * (m.length : Int)) := by
    intro d
    induction d with
    | zero =>
      intro i hi
      obtain rfl : i = m.length := by omega
      exact stp (fun k => laws_heldRouteS.l0.eq_2 ..) (ifn (by omega) (sm _))
    | succ d ih =>
      intro i hi
      have hnx := ih (i + 1) (by omega)
      rw [show ((i + 1 : Nat) : Int) = (i : Int) + 1 by omega, show k0 + 4 * ((i : Int) + 1) = k0 + 4 * (i : Int) + 4 by omega] at hnx
      generalize hk : k0 + 4 * (i : Int) = k at hnx
      have hv := hm i (by omega)
      rw [hk] at hv
      refine stp (fun k => laws_heldRouteS.l0.eq_2 ..) (ifp (by omega) (ifp (by omega) ?_))
      rw [hv, up (by omega) (by omega : (i : Int) < (m.length : Int)) (by omega)]
      rw [w1 (k := k) (by omega) (by omega), w1 (k := k + 1) (by omega) (by omega), w1 (k := k + 1 + 1) (by omega) (by omega), w1 (k := k + 1 + 1 + 1) (by omega) (by omega), show k + 1 + 1 + 1 + 1 = k + 4 by omega]
      exact ifp rfl (ifp rfl (ifp rfl (ifn (by unfold mkR; simp) hnx)))
  have := key m.length 0 (by omega)
  refine evc (fun k => laws_heldRouteS.f.eq_1 ..) ?_
  simpa using this
theorem eqne (y x : S80) : eqB y x = !neR y x := by
  unfold eqB neR
  cases y.f0 == x.f0 <;> cases y.f1 == x.f1 <;> cases y.f2 == x.f2 <;> cases y.f3 == x.f3 <;> rfl
theorem bestL_mem : ∀ l : List S80, l = [] ∧ bestL l = noR ∨ bestL l ∈ l := by
  have key : ∀ (l : List S80) (b : S80), l.foldl pick b = b ∨ l.foldl pick b ∈ l := by
    intro l
    induction l with
    | nil => exact fun b => .inl rfl
    | cons x r ih =>
      intro b
      rw [List.foldl_cons]
      rcases ih (pick b x) with h | h
      · rw [h]
        unfold pick
        split
        · exact .inr List.mem_cons_self
        · exact .inl rfl
      · exact .inr (List.mem_cons_of_mem _ h)
  intro l
  cases l with
  | nil => exact .inl ⟨rfl, rfl⟩
  | cons a r =>
    refine .inr ?_
    show r.foldl pick a ∈ a :: r
    rcases key r a with h | h
    · rw [h]; exact List.mem_cons_self
    · exact List.mem_cons_of_mem _ h
theorem foldl_inv {P : List S80 → Prop} (f : List S80 → Int → List S80) : ∀ (ns : List Int) (acc : List S80), P acc → (∀ acc v, v ∈ ns → P acc → P (f acc v)) → P (ns.foldl f acc)
  | [], acc, h, _ => h
  | v :: r, acc, h, hs => foldl_inv f r (f acc v) (hs acc v List.mem_cons_self h) (fun a w hw ha => hs a w (List.mem_cons_of_mem _ hw) ha)
theorem cnd_rng (l0 : List ByteArray) (l1 : List S92) (l2 l3 : List Int) (l4 : List S95) (env : List Int) (dn : List Bool) (rs : List S80) (a : Int) : ∀ x ∈ cndL l0 l1 l2 l3 l4 env dn rs a, x.f0 < (l0.length : Int) := by
  have hm := nbL_mem l1 a dn l0.length l0.length 0 [] (by omega) (fun v hv => by cases hv)
  unfold cndL
  refine foldl_inv (P := fun acc => ∀ x ∈ acc, x.f0 < (l0.length : Int)) _ _ _ ?_ ?_
  · intro x hx
    have h2 : x.f0 = -2 ∨ x.f0 = -1 := by
      unfold extC ownC at hx
      split at hx
      · split at hx
        · rcases List.mem_append.1 hx with hx | hx
          · split at hx
            · rw [List.mem_singleton.1 hx]; exact .inl rfl
            · cases hx
          · rw [List.mem_singleton.1 hx]; exact .inr rfl
        · split at hx
          · rw [List.mem_singleton.1 hx]; exact .inl rfl
          · cases hx
      · split at hx
        · rw [List.mem_singleton.1 hx]; exact .inl rfl
        · cases hx
    omega
  · intro acc v hv ha x hx
    unfold addC at hx
    split at hx
    · exact ha x hx
    · split at hx
      · exact ha x hx
      · split at hx
        · exact ha x hx
        · rcases List.mem_append.1 hx with hx | hx
          · exact ha x hx
          · rw [List.mem_singleton.1 hx]
            exact (hm v hv).2.1
theorem route_eq (L rs : List S80) (g : Nat → S80) (hl : rs.length ≤ 4) (h : L.length = rs.length) (hL : ∀ j : Nat, j < rs.length → L[j]? = some (g j)) : Ev (fun k => impl_Route.f k L rs) (stbB g rs rs.length 0) := by
  refine evc (fun k => impl_Route.f.eq_1 ..) (ifp (by omega) ?_)
  have key : ∀ (d i : Nat), i + d = rs.length → Ev (fun k => impl_Route.l0 k L rs (L.length : Int) (i : Int)) (stbB g rs d i) := by
    intro d
    induction d with
    | zero => intro i hi; exact stp (fun k => impl_Route.l0.eq_2 ..) (ifn (by omega) (sm _))
    | succ d ih =>
      intro i hi
      have hnx := ih (i + 1) (by omega)
      rw [show ((i + 1 : Nat) : Int) = wrap64 ((i : Int) + 1) by rw [up (i := (i : Int)) (by omega) (by omega : (i : Int) < (rs.length : Int)) (by omega)]; omega] at hnx
      have hx : rd_T80 L (i : Int) = g i := getD_some (hL i (by omega))
      refine stp (fun k => impl_Route.l0.eq_2 ..) (ifp (by omega) (ifp (by omega) (ifp (by omega) (ifp (by omega) ?_))))
      rw [hx, stbB]
      by_cases hn : neR (g i) (rd_T80 rs (i : Int)) = true
      · rw [if_pos hn]; exact ifp hn (sm _)
      · rw [if_neg hn]; exact ifn hn hnx
  exact key rs.length 0 (by omega)
section
variable (l0 : List ByteArray) (l1 : List S92) (l2 l3 : List Int) (l4 : List S95) (l5 : List S97) (env : List Int) (dn : List Bool)
  (h0 : l0.length ≤ 4) (h1 : l1.length ≤ 6) (h2 : l2.length ≤ 140737488351232) (h3 : l3.length ≤ 2) (hd : dn.length = l1.length) (he : env.length = l3.length)
include h0 h1 h2 h3 hd he
theorem nxt_is (rs L : List S80) (hrs : rs.length = l0.length) (hv : ∀ x ∈ rs, x.f0 < (rs.length : Int)) (hLl : L.length = l0.length) (hL : ∀ j : Nat, j < l0.length → L[j]? = some (bestL (cndL l0 l1 l2 l3 l4 env dn rs (j : Int)))) : ∀ (d i : Nat) (sm' : Bool), i + d = rs.length → Ev (fun k => nxtS k l0 l1 l2 l3 l4 l5 env dn rs (rs.drop i) (i : Int) (L.take i) sm') (L, sm' && stbB (fun i => bestL (cndL l0 l1 l2 l3 l4 env dn rs (i : Int))) rs d i) := by
  intro d
  induction d with
  | zero =>
    intro i sm' hi
    rw [List.drop_of_length_le (by omega), List.take_of_length_le (by omega), stbB, Bool.and_true]
    exact evc (fun k => nxtS.eq_1 ..) (sm _)
  | succ d ih =>
    intro i sm' hi
    have hlt : i < rs.length := by omega
    obtain ⟨c1, c2⟩ := cnd_ok l0 l1 l2 l3 l4 env dn rs (i : Int)
    have hg := hL i (by omega)
    rw [List.drop_eq_getElem_cons hlt]
    refine evc (fun k => nxtS.eq_2 ..) (bnd (scand_is l0 l1 l2 l3 l4 l5 env dn rs (i : Int) h0 h1 h2 h3 hd he hrs hv) (bnd (sbest_is _ (by omega) c2) (ifp (by rw [List.length_take]; omega) ?_)))
    have q := ih (i + 1) (sm' && eqB (bestL (cndL l0 l1 l2 l3 l4 env dn rs (i : Int))) rs[i]) (by omega)
    obtain ⟨hiL, hgi⟩ := List.getElem?_eq_some_iff.1 hg
    rw [List.take_succ_eq_append_getElem hiL, hgi, show ((i + 1 : Nat) : Int) = (i : Int) + 1 by omega] at q
    have e : (sm' && eqB (bestL (cndL l0 l1 l2 l3 l4 env dn rs (i : Int))) rs[i] && stbB (fun i => bestL (cndL l0 l1 l2 l3 l4 env dn rs (i : Int))) rs d (i + 1)) = (sm' && stbB (fun i => bestL (cndL l0 l1 l2 l3 l4 env dn rs (i : Int))) rs (d + 1) i) := by
      have hx : rd_T80 rs (i : Int) = rs[i] := getD_some (List.getElem?_eq_getElem hlt)
      rw [stbB, hx, eqne]
      cases neR (bestL (cndL l0 l1 l2 l3 l4 env dn rs (i : Int))) rs[i] <;> cases sm' <;> simp
    rw [e] at q
    exact q
variable (h4 : ∀ x ∈ l4, 1 ≤ x.f3 ∧ x.f3 ≤ 4) (hen : ∀ x ∈ env, 0 ≤ x)
include h4 hen
theorem rounds_is : ∀ (m : Nat) (rs : List S80), rs.length = l0.length → (∀ x ∈ rs, x.f0 < (rs.length : Int)) → ∃ (rf : List S80) (e : Bool), Ev (fun k => stepI k l0 l1 l2 l3 l4 l5 env dn m rs) rf ∧ Ev (fun k => rdsS k l0 l1 l2 l3 l4 l5 env dn m rs) (rf, e) ∧ rf.length = l0.length ∧ (∀ x ∈ rf, x.f0 < (rf.length : Int)) ∧ (e = true → stbB (fun i => bestL (cndL l0 l1 l2 l3 l4 env dn rf (i : Int))) rf rf.length 0 = true) := by
  intro m
  induction m with
  | zero => intro rs hrs hv; exact ⟨rs, false, evc (fun k => stepI.eq_1 ..) (sm _), evc (fun k => rdsS.eq_1 ..) (sm _), hrs, hv, fun h => by cases h⟩
  | succ m ih =>
    intro rs hrs hv
    obtain ⟨L, q1, q2, q3⟩ := ibests_is l0 l1 l2 l3 l4 l5 env dn rs h0 h1 h2 h3 hd he hrs hv h4 hen
    have hr := route_eq L rs (fun i => bestL (cndL l0 l1 l2 l3 l4 env dn rs (i : Int))) (by omega) (by omega) (fun j hj => q3 j (by omega))
    have hn := nxt_is l0 l1 l2 l3 l4 l5 env dn h0 h1 h2 h3 hd he rs L hrs hv q2 q3 rs.length 0 true (by omega)
    rw [List.drop_zero, List.take_zero, Bool.true_and] at hn
    cases hb : stbB (fun i => bestL (cndL l0 l1 l2 l3 l4 env dn rs (i : Int))) rs rs.length 0 with
    | true =>
      rw [hb] at hr hn
      exact ⟨rs, true, evc (fun k => stepI.eq_2 ..) (bnd q1 (bnd hr (ifp rfl (sm _)))), evc (fun k => rdsS.eq_2 ..) (bnd hn (ifp rfl (sm _))), hrs, hv, fun _ => hb⟩
    | false =>
      rw [hb] at hr hn
      obtain ⟨rf, e, r1, r2, r3, r4, r5⟩ := ih L q2 (by
        intro x hx
        obtain ⟨j, hj, rfl⟩ := List.mem_iff_getElem.1 hx
        have := q3 j (by omega)
        rw [List.getElem?_eq_getElem hj] at this
        rw [Option.some.inj this, q2]
        rcases bestL_mem (cndL l0 l1 l2 l3 l4 env dn rs (j : Int)) with ⟨_, h⟩ | h
        · rw [h]; show (-3 : Int) < _; omega
        · exact cnd_rng l0 l1 l2 l3 l4 env dn rs (j : Int) _ h)
      exact ⟨rf, e, evc (fun k => stepI.eq_2 ..) (bnd q1 (bnd hr (ifn Bool.false_ne_true r1))), evc (fun k => rdsS.eq_2 ..) (bnd hn (ifn (by simp) r2)), r3, r4, r5⟩
end
theorem same_settle (l0 : List ByteArray) (l1 : List S92) (l2 l3 : List Int) (l4 : List S95) (l5 : List S97) (hs : ∀ x ∈ l0, x.size ≤ 140737488351232) (h2 : l2.length ≤ 140737488351232) (h3 : l3.length ≤ 140737488351232) (env : List Int) (dn : List Bool) (n : Int) : ∃ s : List S80 × Int, Ev (fun k => spec_Settle.f k l0 l1 l2 l3 l4 l5 env dn n) s ∧ Ev (fun k => impl_Settle.f k l0 l1 l2 l3 l4 l5 env dn n) s ∧ s.1.length ≤ 4 := by
  have hE := senv_is l0 l1 l2 l3 l4 l5 hs h2 h3 env dn
  have hI := icode_is l0 l1 l2 l3 l4 l5 hs h2 h3 env dn [] false false (fun h => by cases h)
  by_cases b12 : (env.length : Int) > 4096 ∨ (dn.length : Int) > 4096
  · rw [if_pos b12] at hE
    rw [if_pos (Or.inl b12)] at hI
    exact ⟨([], 2), evc (fun k => spec_Settle.f.eq_1 ..) (bnd hE (ifp (by decide) (sm _))), evc (fun k => impl_Settle.f.eq_1 ..) (bnd hI (ifp (by decide) (sm _))), by simp⟩
  rw [if_neg b12] at hE
  rw [if_neg (fun h => h.elim b12 (fun h => by simp at h))] at hI
  by_cases hc : envC l0 l1 l2 l3 l4 l5 env dn = 0
  · rw [hc] at hE
    rw [if_pos hc, if_neg Bool.false_ne_true] at hI
    have hin : spec_l01In.f n 0 100 = some (inB n 0 100) := sin_is n 0 100
    have hwi : impl_within.f n 0 100 = some (inB n 0 100) := hin
    cases hn : inB n 0 100 with
    | false =>
      rw [hn] at hin hwi
      exact ⟨([], 5), evc (fun k => spec_Settle.f.eq_1 ..) (bnd hE (ifn (by decide) (bnd0 hin (ifp rfl (sm _))))), evc (fun k => impl_Settle.f.eq_1 ..) (bnd hI (ifn (by decide) (bnd0 hwi (ifp rfl (sm _))))), by simp⟩
    | true =>
      rw [hn] at hin hwi
      unfold inB at hn
      simp only [Bool.and_eq_true, decide_eq_true_eq] at hn
      have hNA : netB l0 l1 l2 l3 l4 l5 = true ∧ aroundB l3.length l1.length env dn.length = true := by
        unfold envC at hc
        split at hc
        · rename_i h
          split at hc
          · rename_i h'; exact ⟨h, h'⟩
          · omega
        · omega
      obtain ⟨g1, g2, g3, g4⟩ := netB_sz hNA.1
      obtain ⟨_, h4⟩ := netB_more hNA.1
      obtain ⟨a1, a2, a3⟩ := around_more hNA.2
      obtain ⟨rf, e, r1, r2, r3, r4, r5⟩ := rounds_is l0 l1 l2 l3 l4 l5 env dn g2 g3 h2 g4 a2 a1 h4 a3 n.toNat (List.replicate l0.length ⟨-3, 0, 0, false⟩) (by simp) (fun x hx => by rw [(List.mem_replicate.1 hx).2]; simp; omega)
      have hst := istable_is l0 l1 l2 l3 l4 l5 env dn rf g2 g3 h2 g4 a2 a1 r3 r4 h4 a3
      have hss := sstable_is l0 l1 l2 l3 l4 l5 env dn rf g2 g3 h2 g4 a2 a1 r3 r4
      cases hb : stbB (fun i => bestL (cndL l0 l1 l2 l3 l4 env dn rf (i : Int))) rf rf.length 0 with
      | true =>
        rw [hb] at hst hss
        refine ⟨(rf, 0), ?_, evc (fun k => impl_Settle.f.eq_1 ..) (bnd hI (ifn (by decide) (bnd0 hwi (ifn (by decide) (ifp ⟨hn, g1, g2⟩ (bnd r1 (bnd hst (ifp rfl (sm _))))))))), by show rf.length ≤ 4; omega⟩
        refine evc (fun k => spec_Settle.f.eq_1 ..) (bnd hE (ifn (by decide) (bnd0 hin (ifn (by decide) (ifp ⟨hn, by omega⟩ (bnd r2 ?_))))))
        cases e with
        | true => exact ifp rfl (sm _)
        | false => exact ifn (by simp) (bnd hss (ifp rfl (sm _)))
      | false =>
        rw [hb] at hst hss
        have he : e = false := by
          cases e with
          | false => rfl
          | true => have := r5 rfl; rw [hb] at this; cases this
        subst he
        exact ⟨([], 8), evc (fun k => spec_Settle.f.eq_1 ..) (bnd hE (ifn (by decide) (bnd0 hin (ifn (by decide) (ifp ⟨hn, by omega⟩ (bnd r2 (ifn (by simp) (bnd hss (ifn Bool.false_ne_true (sm _)))))))))), evc (fun k => impl_Settle.f.eq_1 ..) (bnd hI (ifn (by decide) (bnd0 hwi (ifn (by decide) (ifp ⟨hn, g1, g2⟩ (bnd r1 (bnd hst (ifn Bool.false_ne_true (sm _))))))))), by simp⟩
  · rw [if_neg hc] at hI
    exact ⟨([], envC l0 l1 l2 l3 l4 l5 env dn), evc (fun k => spec_Settle.f.eq_1 ..) (bnd hE (ifp hc (sm _))), evc (fun k => impl_Settle.f.eq_1 ..) (bnd hI (ifp hc (sm _))), by simp⟩
theorem FnExactSettle : laws_FnExactSettle.Pure := by
  intro l0 l1 l2 l3 l4 l5 en dn n w0 w1 w2 w3 w4 w5 we wd wn
  obtain ⟨b0, s0⟩ := w0
  obtain ⟨b1, s1⟩ := w1
  obtain ⟨b2, s2⟩ := w2
  obtain ⟨b3, s3⟩ := w3
  obtain ⟨b4, s4⟩ := w4
  obtain ⟨b5, s5⟩ := w5
  obtain ⟨be, se⟩ := we
  obtain ⟨bd, sd⟩ := wd
  refine Ev.rounds ?_
  refine evc (fun k => laws_FnExactSettle.f.eq_1 ..) ?_
  by_cases hbe : (en.length : Int) > 1048576
  · exact ifp hbe (sm _)
  refine ifn hbe ?_
  by_cases hbd : (dn.length : Int) > 1048576
  · exact ifp hbd (sm _)
  refine ifn hbd ?_
  obtain ⟨v, hv, hle⟩ := szNet_is l0 l1 l2 l3 l4 l5 s0 (by omega) (by omega) (by omega) (by omega) (by omega) (by omega)
  refine bnd hv ?_
  by_cases h : v < 0
  · exact ifp h (sm _)
  refine ifn h ?_
  have hto := toNet_is l0 l1 l2 l3 l4 l5 (by omega) (by omega) (by omega) (by omega) (by omega) (by omega)
  obtain ⟨s, hs, hi, hsl⟩ := same_settle l0 (l1.map cvL) l2 l3 (l4.map cvI) (l5.map cvF) s0 (by omega) (by omega) en dn n
  have c1 : (l1.map cvL).length ≤ 140737488351232 := by rw [List.length_map]; omega
  have c4 : (l4.map cvI).length ≤ 140737488351232 := by rw [List.length_map]; omega
  have c5 : (l5.map cvF).length ≤ 140737488351232 := by rw [List.length_map]; omega
  obtain ⟨r, hr, hr0, hr1⟩ := markNet_is l0 (l1.map cvL) l2 l3 (l4.map cvI) (l5.map cvF) (by omega) c1 (by omega) (by omega) c4 c5
  obtain ⟨me, hme⟩ := markInts_is en r.1 (by omega) hr0 (by omega)
  obtain ⟨mb, hmb⟩ := markBools_is dn (r.1 + ((1 * en.length : Nat) : Int)) (by omega) (by omega) (by omega)
  obtain ⟨m, m1, m2, m3⟩ := markR_is s.1 1 (by omega) (by omega) (by omega)
  have hh := heldR_is m 1 (by omega) (by omega) (by omega) m2
  refine bnd hto (bnd (toI_is en (by omega)) (bnd (toB_is dn (by omega)) (bnd hs (bnd hi (bnd (eqR_self s.1 (by omega)) (bnd (eqNet_self l0 (l1.map cvL) l2 l3 (l4.map cvI) (l5.map cvF) (by omega) c1 (by omega) (by omega) c4 c5) (bnd (eqI_self en (by omega)) (bnd (eqB_self dn (by omega)) (bnd hr (bnd hme (bnd hmb (bnd m3 (bnd hh (ifp ?_ (sm _)))))))))))))))
  refine ⟨rfl, rfl, rfl, rfl, rfl, ?_, ?_, ?_, m1⟩
  · show 0 ≤ r.1 + _ + _
    omega
  · show _ = (1 : Int) + 4 * (s.1.length : Int)
    rw [m1]
  · show (0 : Int) ≤ 1 + 4 * (s.1.length : Int)
    omega
end Go.Proofs.YtgibacfgjmdjdaaGreat.Pure
end
end
section
set_option linter.unusedVariables false
set_option linter.unusedSimpArgs false
namespace Go.Proofs.YtgibacfgjmdjdaaGreat.fnExactSettle
open Go.ChangeShapes Go.WideShapes Go.ChangeAt Go.RowKit Go.Proofs.YtgibacfgjmdjdaaGreat.PFnExactIsStable Go.Proofs.YtgibacfgjmdjdaaGreatW.PrintWords
open Go.ChangeMaps (open_string shut_string)
theorem own : ownKnob Tryz.prog.godebug = none := by kernel_rfl
theorem laidOut : laidOutB Tryz.prog = true := by kernel_rfl
set_option maxRecDepth 100000 in
theorem lifted (os : Os) (started : os.Started) (H : Type) (enc : TypeId × Value → H) :
    ReturnsInHanded {} Tryz.checked os 3 .any (Rows.fnExactSettleSpec.pre6 enc Tryz.prog Tryz.f3 Rows.fnExactSettleRow.domain false) (Rows.fnExactSettleSpec.post enc Tryz.prog Tryz.f3 false true false false) := by
  refine returnsInHanded_of_change_sized (C := Tryz.checked) own started (by kernel_rfl) Tryz.func3
    (ChangeSpec.witness6 (enc := enc) (C := Tryz.checked) false ⟨#[], #[.agg #[.slice none 0 0, .slice none 0 0, .slice none 0 0, .slice none 0 0, .slice none 0 0, .slice none 0 0], .slice none 0 0, .slice none 0 0, .int .i64 0], []⟩ 8 (by kernel_rfl) (by kernel_rfl) (by kernel_rfl) (by kernel_rfl)) ?_
  intro W base args ds gs before hval0 hW hcnd hsz0 _
  have hsz : (DataW.weightsEach Tryz.prog (Tryz.f3.params.toList ++ Rows.fnExactSettleSpec.plain.varTypes Tryz.prog) (ds ++ gs)).all (· ≤ reachBytes) = true := hsz0
  have hval : ∀ (j : Nat) t v, Tryz.f3.params[j]? = some t → args[j]? = some v → Value.okWide Tryz.prog W .any base t v := hval0
  have hW' := hW
  obtain ⟨p, q, hA0, hV, rfl, hfz, hnd⟩ := hW
  have hA : DataW.TrodAll enc Tryz.prog W 0 (fun _ => true) true Tryz.f3.params.toList args.toList ds p := hA0
  rw [Tryz.params3] at hA hval hsz
  obtain ⟨v0, vs0, d0, ds0, p0, q0, hargs, rfl, rfl, h0, r0⟩ := trodAll_cons hA
  obtain ⟨v1, vs1, d1, ds1, p1, q1, rfl, rfl, rfl, h1, r1⟩ := trodAll_cons r0
  obtain ⟨v2, vs2, d2, ds2, p2, q2, rfl, rfl, rfl, h2, r2⟩ := trodAll_cons r1
  obtain ⟨v3, vs3, d3, ds3, p3, q3, rfl, rfl, rfl, h3, r3⟩ := trodAll_cons r2
  obtain ⟨rfl, rfl, rfl⟩ := trodAll_nil r3
  obtain rfl : args = #[v0, v1, v2, v3] := by cases args; simp_all
  obtain ⟨rfl, rfl⟩ := trodVars_none hV
  obtain ⟨cs0, rfl, z0⟩ := okWide_struct Tryz.underlying28 (hval 0 28 v0 rfl rfl)
  have k0 := h0
  have lt0 : ∀ x ∈ p0, x.block < W.heap.size := by obtain ⟨m, hm⟩ := k0; exact DataW.trod_lt m _ _ _ hm
  obtain ⟨x0, K0, w0⟩ := Reads.arg (j := 0) (t := 28) (k := Kd.iso (Kd.pair (Kd.slice 9 Kd.string) (Kd.pair (Kd.slice 85 k107) (Kd.pair (Kd.slice 3 (Kd.int .i64)) (Kd.pair (Kd.slice 3 (Kd.int .i64)) (Kd.pair (Kd.slice 89 k109) (Kd.slice 93 k111)))))) (fun x : (List ByteArray) × (List (S107)) × (List Int) × (List Int) × (List (S109)) × (List (S111)) => x)) (wf := fun p : (List ByteArray) × (List (S107)) × (List Int) × (List Int) × (List (S109)) × (List (S111)) => (Reads.WFL 16 Reads.WFS) p.1 ∧ ((Reads.WFL 24 wf107) p.2.1 ∧ ((Reads.WFL 8 Reads.WFI) p.2.2.1 ∧ ((Reads.WFL 8 Reads.WFI) p.2.2.2.1 ∧ ((Reads.WFL 40 wf109) p.2.2.2.2.1 ∧ ((Reads.WFL 32 wf111) p.2.2.2.2.2)))))) (fun _ => Reads.struct (wf := fun p : (List ByteArray) × (List (S107)) × (List Int) × (List Int) × (List (S109)) × (List (S111)) => (Reads.WFL 16 Reads.WFS) p.1 ∧ ((Reads.WFL 24 wf107) p.2.1 ∧ ((Reads.WFL 8 Reads.WFI) p.2.2.1 ∧ ((Reads.WFL 8 Reads.WFI) p.2.2.2.1 ∧ ((Reads.WFL 40 wf109) p.2.2.2.2.1 ∧ ((Reads.WFL 32 wf111) p.2.2.2.2.2)))))) (fun x : (List ByteArray) × (List (S107)) × (List Int) × (List Int) × (List (S109)) × (List (S111)) => x) (fun p => p) (fun _ => rfl) Tryz.underlying28 (by kernel_rfl) (fun m _ => (Reads.more rfl (by kernel_rfl) ((Reads.sliceR (t := 22) (e := 9) Tryz.underlying22 (by kernel_rfl) (by kernel_rfl) (Reads.stringR Tryz.underlying9)) m) (Reads.more rfl (by kernel_rfl) ((Reads.sliceR (t := 23) (e := 85) Tryz.underlying23 (by kernel_rfl) (by kernel_rfl) rk107) m) (Reads.more rfl (by kernel_rfl) ((Reads.sliceR (t := 24) (e := 3) Tryz.underlying24 (by kernel_rfl) (by kernel_rfl) (Reads.intR Tryz.underlying3)) m) (Reads.more rfl (by kernel_rfl) ((Reads.sliceR (t := 24) (e := 3) Tryz.underlying24 (by kernel_rfl) (by kernel_rfl) (Reads.intR Tryz.underlying3)) m) (Reads.more rfl (by kernel_rfl) ((Reads.sliceR (t := 25) (e := 89) Tryz.underlying25 (by kernel_rfl) (by kernel_rfl) rk109) m) (Reads.last rfl (by kernel_rfl) ((Reads.sliceR (t := 26) (e := 93) Tryz.underlying26 (by kernel_rfl) (by kernel_rfl) rk111) m))))))))) hsz rfl rfl h0
  obtain ⟨_, _, e0, ⟨A0_0, c0_0, rfl, hc0_0, hr0_0⟩, ⟨_, _, rfl, ⟨A0_1, c0_1, rfl, hc0_1, hr0_1⟩, ⟨_, _, rfl, ⟨A0_2, c0_2, rfl, hc0_2, hr0_2⟩, ⟨_, _, rfl, ⟨A0_3, c0_3, rfl, hc0_3, hr0_3⟩, ⟨_, _, rfl, ⟨A0_4, c0_4, rfl, hc0_4, hr0_4⟩, ⟨A0_5, c0_5, rfl, hc0_5, hr0_5⟩⟩⟩⟩⟩⟩ := K0
  obtain rfl : cs0 = #[.slice A0_0 x0.1.length c0_0, .slice A0_1 x0.2.1.length c0_1, .slice A0_2 x0.2.2.1.length c0_2, .slice A0_3 x0.2.2.2.1.length c0_3, .slice A0_4 x0.2.2.2.2.1.length c0_4, .slice A0_5 x0.2.2.2.2.2.length c0_5] := by
    apply Array.toList_inj.1
    exact e0
  obtain ⟨A1, n1, c1, rfl⟩ := okWide_slice Tryz.underlying24 (hval 1 24 v1 rfl rfl)
  have k1 := h1
  have lt1 : ∀ x ∈ p1, x.block < W.heap.size := by obtain ⟨m, hm⟩ := k1; exact DataW.trod_lt m _ _ _ hm
  obtain ⟨l1, K1, w1⟩ := Reads.arg (j := 1) (t := 24) (k := (Kd.slice 3 (Kd.int .i64))) (wf := (Reads.WFL 8 Reads.WFI)) (Reads.sliceR (t := 24) (e := 3) Tryz.underlying24 (by kernel_rfl) (by kernel_rfl) (Reads.intR Tryz.underlying3)) hsz rfl rfl h1
  obtain ⟨B1, C1, e1, hc1, hr1⟩ := K1
  simp only [Value.cells, List.cons.injEq, Value.slice.injEq, and_true] at e1
  obtain ⟨rfl, rfl, rfl⟩ := e1
  obtain ⟨A2, n2, c2, rfl⟩ := okWide_slice Tryz.underlying29 (hval 2 29 v2 rfl rfl)
  have k2 := h2
  have lt2 : ∀ x ∈ p2, x.block < W.heap.size := by obtain ⟨m, hm⟩ := k2; exact DataW.trod_lt m _ _ _ hm
  obtain ⟨l2, K2, w2⟩ := Reads.arg (j := 2) (t := 29) (k := (Kd.slice 4 Kd.bool)) (wf := (Reads.WFL 1 (fun _ : Bool => True))) (Reads.sliceR (t := 29) (e := 4) Tryz.underlying29 (by kernel_rfl) (by kernel_rfl) (Reads.boolR Tryz.underlying4)) hsz rfl rfl h2
  obtain ⟨B2, C2, e2, hc2, hr2⟩ := K2
  simp only [Value.cells, List.cons.injEq, Value.slice.injEq, and_true] at e2
  obtain ⟨rfl, rfl, rfl⟩ := e2
  obtain ⟨a3, rfl, rfl, rfl, y3⟩ := open_int Tryz.underlying3 (hval 3 3 v3 rfl rfl) h3
  have w3 : Reads.WFI a3 := Reads.wf_i64 y3
  clear hA0 hval0 hsz0 hsz
  obtain ⟨k, h⟩ := Pure.FnExactSettle x0.1 x0.2.1 x0.2.2.1 x0.2.2.2.1 x0.2.2.2.2.1 x0.2.2.2.2.2 l1 l2 a3 (w0.1) (w0.2.1) (w0.2.2.1) (w0.2.2.2.1) (w0.2.2.2.2.1) (w0.2.2.2.2.2) w1 w2 w3
  refine (laws_FnExactSettle.calls k _ _ x0.1 _ _ x0.2.1 _ _ x0.2.2.1 _ _ x0.2.2.2.1 _ _ x0.2.2.2.2.1 _ _ x0.2.2.2.2.2 _ _ l1 _ _ l2 a3 true W hr0_0 hc0_0 hr0_1 hc0_1 hr0_2 hc0_2 hr0_3 hc0_3 hr0_4 hc0_4 hr0_5 hc0_5 hr1 hc1 hr2 hc2 h).mono ?_
  rintro e W' ⟨rfl, bel⟩
  exact ⟨_, rfl, _, _, _, [], _, [], hW', trodAll_mk1 (shut_bool Tryz.underlying4 _), (trodAll_cons_mk (Below.trod laidOut (by kernel_rfl) (of_decide_eq_true (by kernel_rfl)) k0 bel lt0) (trodAll_cons_mk (Below.trod laidOut (by kernel_rfl) (of_decide_eq_true (by kernel_rfl)) k1 bel lt1) (trodAll_cons_mk (Below.trod laidOut (by kernel_rfl) (of_decide_eq_true (by kernel_rfl)) k2 bel lt2) (trodAll_cons_mk (shut_int Tryz.underlying3 y3) trodAll_mk0)))), rfl, bel.frame _, fun h => by cases h⟩
theorem over : Rows.fnExactSettleRow.holds Tryz.pinned (OpenSpec.ofChange Rows.fnExactSettleSpec) :=
  OpenClaim.holds_of_wide 3 Tryz.f3 rfl rfl rfl rfl rfl rfl rfl ⟨rfl, rfl, rfl, rfl, rfl⟩ rfl rfl rfl rfl rfl (by kernel_rfl) Tryz.func3 (by kernel_rfl)
    (of_decide_eq_true (by kernel_rfl)) (by unfold Func.isWrapper; first | (rw [if_pos (by decide +kernel)]; kernel_rfl) | (rw [if_neg (by decide +kernel)]; exact ⟨rfl, rfl⟩))
    (fun os started H enc _ => lifted os started H enc)
theorem proved : Rows.FnExactSettleSaid := over
end Go.Proofs.YtgibacfgjmdjdaaGreat.fnExactSettle
namespace Go.Proofs.YtgibacfgjmdjdaaGreat
theorem fnExactSettle_holds : Rows.FnExactSettleSaid := fnExactSettle.proved
end Go.Proofs.YtgibacfgjmdjdaaGreat
end
#print axioms Go.Proofs.YtgibacfgjmdjdaaGreat.fnExactSettle_holds
