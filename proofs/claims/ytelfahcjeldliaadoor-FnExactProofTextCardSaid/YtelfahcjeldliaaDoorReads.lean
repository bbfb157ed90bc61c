/- From the form's reading of an argument (DataW.trod) to the printed words' kinds (Kd): what is read as data of a type is of the type's kind, and its texts and slices are within the form's reach. No conditions. -/
import Derived.Test.YtelfahcjeldliaaDoorWWords
import Derived.Deep.Slices
import Derived.ChangeArms
import Derived.SizedLaws
set_option linter.unusedVariables false
set_option linter.unusedSimpArgs false
namespace Go.Proofs.YtelfahcjeldliaaDoor.Reads
open Go.RowKit Go.ChangeShapes Go.WideShapes Go.Deep Go.Proofs.YtelfahcjeldliaaDoorW.PrintWords

/-- What reads, within n steps, as data of type t is of the kind d, and a proper value of it. -/
def ReadsN (P : Program) (n : Nat) (t : TypeId) {α : Type} (d : Kd α) (wf : α → Prop) : Prop :=
  ∀ (H : Type) (enc : TypeId × Value → H) (w : World) (base : Nat) (spare : Nat → Bool) (held : Bool) (cs : List Value) (x : DataW H × List MemPlace),
    DataW.trod enc P w base spare held n t cs = some x → (x.1.weights P t).all (· ≤ reachBytes) = true → ∃ a : α, d.K w a cs ∧ wf a
def Reads (P : Program) (t : TypeId) {α : Type} (d : Kd α) (wf : α → Prop) : Prop := ∀ n, ReadsN P n t d wf

theorem wf_i64 {z : Int} (h : (Lit.int .i64 z).wf = true) : -9223372036854775808 ≤ z ∧ z ≤ 9223372036854775807 := by
  simp only [Lit.wf, Bool.and_eq_true, decide_eq_true_eq] at h
  exact h

/-- an int of 64 bits -/
def WFI (z : Int) : Prop := -9223372036854775808 ≤ z ∧ z ≤ 9223372036854775807
/-- a text within the reach -/
def WFS (s : ByteArray) : Prop := s.size ≤ 140737488351232
/-- a slice within the reach (b: an element's bytes), its elements proper -/
def WFL {α : Type} (b : Nat) (wf : α → Prop) (l : List α) : Prop := l.length * b ≤ 140737488351232 ∧ ∀ x ∈ l, wf x

theorem int {P : Program} {n : Nat} {t : TypeId} (ht : P.underlying t = some (.int .i64)) : ReadsN P n t (Kd.int .i64) WFI := by
  intro H enc w base spare held cs x h _
  obtain ⟨z, rfl, rfl, hw⟩ := DataW.trod_int ht h
  exact ⟨z, rfl, wf_i64 hw⟩
theorem bool {P : Program} {n : Nat} {t : TypeId} (ht : P.underlying t = some .bool) : ReadsN P n t Kd.bool (fun _ => True) := by
  intro H enc w base spare held cs x h _
  obtain ⟨z, rfl, rfl⟩ := DataW.trod_bool ht h
  exact ⟨z, rfl, trivial⟩
theorem string {P : Program} {n : Nat} {t : TypeId} (ht : P.underlying t = some .string) : ReadsN P n t Kd.string WFS := by
  intro H enc w base spare held cs x h hr
  obtain ⟨z, rfl, rfl, _⟩ := DataW.trod_string ht h
  refine ⟨z, rfl, ?_⟩
  simp [DataW.weights, reachBytes] at hr
  exact (show z.size ≤ 140737488351232 from of_decide_eq_true hr)

theorem all_of {H : Type} {P : Program} {e : TypeId} : ∀ {l : List (DataW H)}, (DataW.weightsAll P e l).all (· ≤ reachBytes) = true → ∀ d ∈ l, (d.weights P e).all (· ≤ reachBytes) = true
  | [], _, d, hd => by cases hd
  | y :: r, h, d, hd => by
    simp only [DataW.weightsAll, List.all_append, Bool.and_eq_true] at h
    rcases List.mem_cons.1 hd with rfl | hd
    · exact h.1
    · exact all_of h.2 d hd

theorem slice {P : Program} {n : Nat} {t e : TypeId} {α : Type} {d : Kd α} {wf : α → Prop} {b : Nat} (ht : P.underlying t = some (.slice e)) (hc : P.cellsOf e = d.sz) (hb : P.bytesOf e = b) (he : ∀ m, m < n → ReadsN P m e d wf) :
    ReadsN P n t (Kd.slice e d) (WFL b wf) := by
  intro H enc w base spare held cs x h hr
  cases n with
  | zero => simp [DataW.trod] at h
  | succ n =>
    have h' := h
    simp only [DataW.trod, ht] at h'
    match cs, h' with
    | [.slice none 0 0], h' =>
      refine ⟨[], ⟨none, 0, rfl, Nat.le_refl _, rfl, by simp, fun h => absurd h (Nat.lt_irrefl 0)⟩, by simp, fun x hx => by cases hx⟩
    | [.slice (some a) len cap], h' =>
      simp only at h'
      split at h'
      · rename_i hcond
        obtain ⟨elems, hel, h2⟩ := Option.bind_eq_some_iff.1 h'
        obtain ⟨rest, hrest, rfl⟩ := Option.map_eq_some_iff.1 h2
        simp only [DataW.weights, ht, List.all_cons, List.all_append, Bool.and_eq_true, hb, List.length_map, decide_eq_true_eq] at hr
        have hlen : elems.length = len := by simpa using mapM_some_length hel
        have hget : ∀ i, i < len → ∃ y : α, wf y ∧ ∃ c, c.length = d.sz ∧ d.K w y c ∧ ∀ j u, c[j]? = some u → w.cell? (a.add (i * d.sz + j)) = some u := by
          intro i hi
          have h3 := mapM_some_get hel i i (by simp [hi])
          rw [List.getElem?_eq_getElem (by omega)] at h3
          obtain ⟨cs', hcs, htr⟩ := Option.bind_eq_some_iff.1 h3
          obtain ⟨y, hK, hw⟩ := he n (Nat.lt_succ_self n) H enc w base spare held cs' _ htr (all_of hr.2.1 _ (List.mem_map.2 ⟨elems[i]'(by omega), List.getElem_mem _, rfl⟩))
          obtain ⟨_, hcl, hat⟩ := World.cells?_some hcs
          rw [hc] at hcl hat
          refine ⟨y, hw, cs', hcl, hK, fun j u hj => ?_⟩
          have hjl : j < d.sz := by
            rw [← hcl]
            exact (List.getElem?_eq_some_iff.1 hj).1
          rw [← Deep.add_add, hat j hjl, hj]
        rcases Nat.eq_zero_or_pos len with hz | hz
        · subst hz
          refine ⟨[], ⟨some a, cap, rfl, Nat.zero_le _, rfl, by simp, fun h => absurd h (Nat.lt_irrefl 0)⟩, by simp, fun x hx => by cases hx⟩
        have hinh : Inhabited α := ⟨(hget 0 hz).choose⟩
        obtain ⟨f, hf⟩ := choose_lt hget
        refine ⟨(List.range len).map f, ⟨some a, cap, ?_, ?_, ?_, ?_, ?_⟩, ?_, ?_⟩
        · simp
        · simpa using hcond.2.1
        · simp
        · have := hcond.2.2
          have := hcond.2.1
          simp [maxLen] at *
          omega
        · intro _
          refine ⟨a, rfl, fun j p hj => ?_⟩
          have hjl : j < len := by
            have := (List.getElem?_eq_some_iff.1 hj).1
            simpa using this
          simp [hjl] at hj
          subst hj
          obtain ⟨_, c, h1, h2, h3⟩ := hf j hjl
          exact ⟨c, h1, h2, h3⟩
        · have h4 := hr.1
          simp only [reachBytes] at h4
          have : len * b ≤ (elems.length + rest.length) * b := Nat.mul_le_mul_right _ (by omega)
          simp
          omega
        · intro y hy
          obtain ⟨i, hi, rfl⟩ := List.mem_map.1 hy
          exact (hf i (by simpa using hi)).1
      · cases h'

theorem intR {P : Program} {t : TypeId} (ht : P.underlying t = some (.int .i64)) : Reads P t (Kd.int .i64) WFI := fun _ => int ht
theorem boolR {P : Program} {t : TypeId} (ht : P.underlying t = some .bool) : Reads P t Kd.bool (fun _ => True) := fun _ => bool ht
theorem stringR {P : Program} {t : TypeId} (ht : P.underlying t = some .string) : Reads P t Kd.string WFS := fun _ => string ht
theorem sliceR {P : Program} {t e : TypeId} {α : Type} {d : Kd α} {wf : α → Prop} {b : Nat} (ht : P.underlying t = some (.slice e)) (hc : P.cellsOf e = d.sz) (hb : P.bytesOf e = b) (he : Reads P e d wf) : Reads P t (Kd.slice e d) (WFL b wf) :=
  fun _ => slice ht hc hb (fun m _ => he m)

/-- The fields from a cell on. -/
def FieldsN (P : Program) (n : Nat) (fs : List Field) (off : Nat) {α : Type} (d : Kd α) (wf : α → Prop) : Prop :=
  ∀ (H : Type) (enc : TypeId × Value → H) (w : World) (base : Nat) (spare : Nat → Bool) (held : Bool) (cs : List Value) (xs : List (DataW H × List MemPlace)),
    (fs.mapM fun f => DataW.trod enc P w base spare held n f.type ((cs.drop f.offset).take (P.cellsOf f.type))) = some xs →
    (DataW.weightsEach P (fs.map (·.type)) (xs.map (·.1))).all (· ≤ reachBytes) = true → cs.length = off + d.sz → ∃ a : α, d.K w a (cs.drop off) ∧ wf a

theorem last {P : Program} {n : Nat} {f : Field} {off : Nat} {α : Type} {d : Kd α} {wf : α → Prop} (ho : f.offset = off) (hc : P.cellsOf f.type = d.sz) (h : ReadsN P n f.type d wf) : FieldsN P n [f] off d wf := by
  intro H enc w base spare held cs xs hm hr hl
  simp only [List.mapM_cons, List.mapM_nil, Option.bind_eq_bind, Option.bind_eq_some_iff, Option.pure_def, Option.some.injEq] at hm
  obtain ⟨y, hy, _, rfl, rfl⟩ := hm
  rw [ho, hc, List.take_of_length_le (by rw [List.length_drop]; omega)] at hy
  simp only [List.map_cons, List.map_nil, DataW.weightsEach, List.append_nil] at hr
  exact h H enc w base spare held _ _ hy hr

theorem more {P : Program} {n : Nat} {f : Field} {fs : List Field} {off : Nat} {α β : Type} {d : Kd α} {d' : Kd β} {wf : α → Prop} {wf' : β → Prop} (ho : f.offset = off) (hc : P.cellsOf f.type = d.sz)
    (h : ReadsN P n f.type d wf) (h' : FieldsN P n fs (off + d.sz) d' wf') : FieldsN P n (f :: fs) off (Kd.pair d d') (fun x => wf x.1 ∧ wf' x.2) := by
  intro H enc w base spare held cs xs hm hr hl
  simp only [List.mapM_cons, Option.bind_eq_bind, Option.bind_eq_some_iff, Option.pure_def, Option.some.injEq] at hm
  obtain ⟨y, hy, ys, hys, rfl⟩ := hm
  simp only [List.map_cons, DataW.weightsEach, List.all_append, Bool.and_eq_true] at hr
  have hl' : cs.length = off + (d.sz + d'.sz) := hl
  rw [ho, hc] at hy
  obtain ⟨a, hK, hw⟩ := h H enc w base spare held _ _ hy hr.1
  obtain ⟨b, hK', hw'⟩ := h' H enc w base spare held cs ys hys hr.2 (by omega)
  refine ⟨(a, b), ⟨_, _, ?_, hK, hK'⟩, hw, hw'⟩
  have := (List.take_append_drop d.sz (cs.drop off)).symm
  rwa [List.drop_drop] at this

theorem struct {P : Program} {n : Nat} {t : TypeId} {fs : Array Field} {α β : Type} {d : Kd α} {wf : α → Prop} (f : β → α) (g : α → β) (hfg : ∀ a, f (g a) = a) (ht : P.underlying t = some (.struct fs)) (hc : P.cellsOf t = d.sz)
    (h : ∀ m, m < n → FieldsN P m fs.toList 0 d wf) : ReadsN P n t (Kd.iso d f) (fun x => wf (f x)) := by
  intro H enc w base spare held cs x hx hr
  cases n with
  | zero => simp [DataW.trod] at hx
  | succ n =>
    simp only [DataW.trod, ht] at hx
    have hx' : cs.length = P.cellsOf t ∧ ∃ xs, (fs.toList.mapM fun f => DataW.trod enc P w base spare held n f.type ((cs.drop f.offset).take (P.cellsOf f.type))) = some xs ∧ (.agg (xs.map (·.1)), xs.flatMap (·.2)) = x := by
      split at hx <;> simp_all
    obtain ⟨hl, xs, hm, rfl⟩ := hx'
    simp only [DataW.weights, ht] at hr
    obtain ⟨a, hK, hw⟩ := h n (Nat.lt_succ_self n) H enc w base spare held cs xs hm hr (by rw [hl, hc]; omega)
    rw [List.drop_zero] at hK
    exact ⟨g a, by show d.K w (f (g a)) cs; rw [hfg]; exact hK, by show wf (f (g a)); rw [hfg]; exact hw⟩

/-- A type nested in itself: by the reading's own steps. -/
theorem nested {P : Program} {t : TypeId} {α : Type} {F : Kd α → Kd α} {sz : Nat} {E : List Nat} {hs : ∀ n, (Kd.upto F sz E n).sz = sz} {hE : ∀ n q, q ∈ (Kd.upto F sz E n).E → q ∈ E} {wf : Nat → α → Prop}
    (h : ∀ n, (∀ m, m ≤ n → ReadsN P m t (Kd.upto F sz E n) (wf n)) → ∀ m, m ≤ n + 1 → ReadsN P m t (F (Kd.upto F sz E n)) (wf (n + 1))) : Reads P t (Kd.fix F sz E hs hE) (fun x => ∃ n, wf n x) := by
  have key : ∀ n m, m ≤ n → ReadsN P m t (Kd.upto F sz E n) (wf n) := by
    intro n
    induction n with
    | zero =>
      intro m hm H enc w base spare held cs x hx
      obtain rfl : m = 0 := by omega
      simp [DataW.trod] at hx
    | succ n ih => exact h n ih
  intro n H enc w base spare held cs x hx hr
  obtain ⟨a, hK, hw⟩ := key n n (Nat.le_refl _) H enc w base spare held cs x hx hr
  exact ⟨a, ⟨n, hK⟩, n, hw⟩

theorem each_of {H : Type} {P : Program} : ∀ {ts : List TypeId} {ds : List (DataW H)} {j : Nat} {t : TypeId} {d : DataW H}, (DataW.weightsEach P ts ds).all (· ≤ reachBytes) = true → ts[j]? = some t → ds[j]? = some d → (d.weights P t).all (· ≤ reachBytes) = true
  | [], _, _, _, _, _, h, _ => by simp at h
  | _ :: _, [], _, _, _, _, _, h => by simp at h
  | t0 :: ts, d0 :: ds, 0, t, d, h, ht, hd => by
    simp only [List.getElem?_cons_zero, Option.some.injEq] at ht hd
    subst ht hd
    simp only [DataW.weightsEach, List.all_append, Bool.and_eq_true] at h
    exact h.1
  | t0 :: ts, d0 :: ds, j + 1, t, d, h, ht, hd => by
    simp only [DataW.weightsEach, List.all_append, Bool.and_eq_true] at h
    exact each_of (j := j) h.2 (by simpa using ht) (by simpa using hd)

/-- An argument that reads as data: its cells are of the kind. -/
theorem arg {H : Type} {enc : TypeId × Value → H} {P : Program} {W : World} {base : Nat} {spare : Nat → Bool} {held : Bool} {t : TypeId} {v : Value} {d : DataW H} {ps : List MemPlace} {ts : List TypeId} {ds : List (DataW H)} {j : Nat} {α : Type} {k : Kd α} {wf : α → Prop}
    (hk : Reads P t k wf) (hsz : (DataW.weightsEach P ts ds).all (· ≤ reachBytes) = true) (ht : ts[j]? = some t) (hd : ds[j]? = some d) (h : DataW.Trod enc P W base spare held t v d ps) : ∃ a : α, k.K W a v.cells.toList ∧ wf a := by
  obtain ⟨fuel, hf⟩ := h
  exact hk fuel H enc W base spare held _ _ hf (each_of hsz ht hd)

end Go.Proofs.YtelfahcjeldliaaDoor.Reads
