/- Plain lemmas on rounds, loops that copy or compare lists, and bounded numbers, for the pure statements of this seat. No conditions. -/
import Derived.Test.YtelfahcjeldliaaDoorWWords
import Derived.Test.YtelfahcjeldliaaDoorWLast
set_option linter.unusedVariables false
set_option linter.unusedSimpArgs false
namespace Go.Proofs.YtelfahcjeldliaaDoor.Plain
open Go.RowKit Go.Proofs.YtelfahcjeldliaaDoorW.PrintWords

section
variable {α β : Type}
theorem ifp {c : Prop} [Decidable c] {f g : Nat → Option α} {r : α} (h : c) (k : Ev f r) : Ev (fun n => if c then f n else g n) r := by
  obtain ⟨K, hK⟩ := k
  exact ⟨K, fun n hn => by simp only [if_pos h]; exact hK n hn⟩
theorem ifn {c : Prop} [Decidable c] {f g : Nat → Option α} {r : α} (h : ¬ c) (k : Ev g r) : Ev (fun n => if c then f n else g n) r := by
  obtain ⟨K, hK⟩ := k
  exact ⟨K, fun n hn => by simp only [if_neg h]; exact hK n hn⟩
/-- a callee's answer, then the rest -/
theorem bnd {g : Nat → Option α} {f : Nat → α → Option β} {a : α} {r : β} (h : Ev g a) (k : Ev (fun n => f n a) r) : Ev (fun n => (g n).bind (f n)) r := Ev.bind h k
/-- a callee without rounds -/
theorem bnd0 {g : Option α} {f : Nat → α → Option β} {a : α} {r : β} (h : g = some a) (k : Ev (fun n => f n a) r) : Ev (fun n => g.bind (f n)) r := by
  obtain ⟨K, hK⟩ := k
  exact ⟨K, fun n hn => by rw [h]; exact hK n hn⟩
theorem stp {g f : Nat → Option α} {r : α} (h : ∀ k, g (k + 1) = f k) (k : Ev f r) : Ev g r := Ev.step h k
theorem evc {g f : Nat → Option α} {r : α} (h : ∀ k, g k = f k) (k : Ev f r) : Ev g r := Ev.congr h k
theorem sm (r : α) : Ev (fun _ => some r) r := Ev.now r
theorem one {g : Option α} {r : α} (h : g = some r) : Ev (fun _ => g) r := ⟨0, fun _ _ => h⟩
theorem uniq {g : Nat → Option α} {r q : α} (h : Ev g r) (k : Ev g q) : r = q := by
  obtain ⟨K, hK⟩ := h
  obtain ⟨L, hL⟩ := k
  have h1 := hK (K + L) (by omega)
  have h2 := hL (K + L) (by omega)
  exact Option.some.inj (h1.symm.trans h2)
end

/-- 'i + 1' of an index does not wrap -/
theorem up {i n : Int} (h0 : 0 ≤ i) (h : i < n) (hn : n ≤ 9223372036854775807) : wrap64 (i + 1) = i + 1 := by
  unfold wrap64
  omega
theorem w64 {x : Int} (h0 : -9223372036854775808 ≤ x) (h : x ≤ 9223372036854775807) : wrap64 x = x := by
  unfold wrap64
  omega

/-- A loop over an index, by what is left: 'P i' holds of the loop's state at each round. -/
theorem loop {σ ρ : Type} {L : Int → σ → Nat → Option ρ} {n : Int} {R : Int → σ → ρ → Prop}
    (hend : ∀ i s, i = n → ∀ r, R i s r → Ev (L i s) r)
    (hstep : ∀ i s r, 0 ≤ i → i < n → R i s r → ∃ s', R (i + 1) s' r ∧ (Ev (L (i + 1) s') r → Ev (L i s) r)) :
    ∀ (d : Nat) (i : Int) (s : σ) (r : ρ), 0 ≤ i → n - i = d → R i s r → Ev (L i s) r := by
  intro d
  induction d with
  | zero =>
    intro i s r h0 hd hR
    exact hend i s (by omega) r hR
  | succ d ih =>
    intro i s r h0 hd hR
    obtain ⟨s', hR', hk⟩ := hstep i s r h0 (by omega) hR
    exact hk (ih (i + 1) s' r (by omega) (by omega) hR')

/-- The elements of a copy that have been written: the first i are f of the others', the length is theirs. -/
theorem set_take {α β : Type} (f : α → β) (xs : List α) (out : List β) (i : Nat) (x : α) (hx : xs[i]? = some x) (hl : out.length = xs.length) (h : out.take i = (xs.take i).map f) :
    (out.set i (f x)).take (i + 1) = (xs.take (i + 1)).map f := by
  have hi : i < xs.length := (List.getElem?_eq_some_iff.1 hx).1
  rw [List.take_succ_eq_append_getElem (by simp; omega), List.take_succ_eq_append_getElem hi, List.map_append, List.map_singleton, ← h]
  congr 1
  · rw [List.take_set]
    apply List.set_eq_of_length_le
    simp
    omega
  · rw [List.getElem_set_self]
    rw [(List.getElem?_eq_some_iff.1 hx).2]

/-- A loop that fills a copy. -/
theorem copy {α β : Type} (f : α → β) (xs : List α) (L : Int → List β → Nat → Option (List β))
    (hend : ∀ out, Ev (L (xs.length : Int) out) out)
    (hstep : ∀ (i : Nat) (out : List β) (r : List β) (x : α), xs[i]? = some x → out.length = xs.length → Ev (L ((i : Int) + 1) (out.set i (f x))) r → Ev (L (i : Int) out) r) :
    ∀ out, out.length = xs.length → Ev (L 0 out) (xs.map f) := by
  have key : ∀ (d i : Nat) (out : List β), i + d = xs.length → out.length = xs.length → out.take i = (xs.take i).map f → Ev (L (i : Int) out) (xs.map f) := by
    intro d
    induction d with
    | zero =>
      intro i out hd hl ht
      have hi : i = xs.length := by omega
      subst hi
      rw [List.take_of_length_le (by omega), List.take_of_length_le (by omega)] at ht
      subst ht
      exact hend _
    | succ d ih =>
      intro i out hd hl ht
      have hi : i < xs.length := by omega
      have hx : xs[i]? = some xs[i] := List.getElem?_eq_getElem hi
      refine hstep i out _ _ hx hl ?_
      have := ih (i + 1) (out.set i (f xs[i])) (by omega) (by simpa using hl) (set_take f xs out i _ hx hl ht)
      rwa [show ((i + 1 : Nat) : Int) = (i : Int) + 1 by omega] at this
  intro out hl
  have := key xs.length 0 out (by omega) hl (by simp)
  simpa using this

/-- A loop that fills a copy and goes on. -/
theorem copyK {α β ρ : Type} (f : α → β) (xs : List α) (L : Int → List β → Nat → Option ρ) (r : ρ)
    (hend : Ev (L (xs.length : Int) (xs.map f)) r)
    (hstep : ∀ (i : Nat) (out : List β) (x : α), xs[i]? = some x → out.length = xs.length → Ev (L ((i : Int) + 1) (out.set i (f x))) r → Ev (L (i : Int) out) r) :
    ∀ out, out.length = xs.length → Ev (L 0 out) r := by
  have key : ∀ (d i : Nat) (out : List β), i + d = xs.length → out.length = xs.length → out.take i = (xs.take i).map f → Ev (L (i : Int) out) r := by
    intro d
    induction d with
    | zero =>
      intro i out hd hl ht
      have hi : i = xs.length := by omega
      subst hi
      rw [List.take_of_length_le (by omega), List.take_of_length_le (by omega)] at ht
      subst ht
      exact hend
    | succ d ih =>
      intro i out hd hl ht
      have hi : i < xs.length := by omega
      have hx : xs[i]? = some xs[i] := List.getElem?_eq_getElem hi
      refine hstep i out _ hx hl ?_
      have := ih (i + 1) (out.set i (f xs[i])) (by omega) (by simpa using hl) (set_take f xs out i _ hx hl ht)
      rwa [show ((i + 1 : Nat) : Int) = (i : Int) + 1 by omega] at this
  intro out hl
  have := key xs.length 0 out (by omega) hl (by simp)
  simpa using this

/-- A loop that compares two lists, element by element: all alike. -/
theorem same {α : Type} (xs : List α) (L : Int → Nat → Option Bool)
    (hend : Ev (L (xs.length : Int)) true)
    (hstep : ∀ (i : Nat) (x : α), xs[i]? = some x → Ev (L ((i : Int) + 1)) true → Ev (L (i : Int)) true) : Ev (L 0) true := by
  have key : ∀ (d i : Nat), i + d = xs.length → Ev (L (i : Int)) true := by
    intro d
    induction d with
    | zero =>
      intro i hd
      have hi : i = xs.length := by omega
      subst hi
      exact hend
    | succ d ih =>
      intro i hd
      have hi : i < xs.length := by omega
      refine hstep i _ (List.getElem?_eq_getElem hi) ?_
      have := ih (i + 1) (by omega)
      rwa [show ((i + 1 : Nat) : Int) = (i : Int) + 1 by omega] at this
  simpa using key xs.length 0 (by omega)

/-- A loop that looks whether all elements pass. -/
theorem allL {α : Type} (xs : List α) (q : α → Bool) (L : Int → Nat → Option Bool)
    (hend : Ev (L (xs.length : Int)) true)
    (hstep : ∀ (i : Nat) (x : α) (r : Bool), xs[i]? = some x → Ev (L ((i : Int) + 1)) r → Ev (L (i : Int)) (q x && r)) : Ev (L 0) (xs.all q) := by
  have key : ∀ (d i : Nat), i + d = xs.length → Ev (L (i : Int)) ((xs.drop i).all q) := by
    intro d
    induction d with
    | zero =>
      intro i hd
      have hi : i = xs.length := by omega
      subst hi
      rw [List.drop_length]
      exact hend
    | succ d ih =>
      intro i hd
      have hi : i < xs.length := by omega
      have := ih (i + 1) (by omega)
      rw [show ((i + 1 : Nat) : Int) = (i : Int) + 1 by omega] at this
      rw [List.drop_eq_getElem_cons hi, List.all_cons]
      exact hstep i _ _ (List.getElem?_eq_getElem hi) this
  simpa using key xs.length 0 (by omega)

/-- A loop that folds. -/
theorem foldL {α σ ρ : Type} (xs : List α) (step : σ → α → σ) (fin : σ → ρ) (L : Int → σ → Nat → Option ρ) (inv : Nat → σ → Prop)
    (hend : ∀ s, inv xs.length s → Ev (L (xs.length : Int) s) (fin s))
    (hstep : ∀ (i : Nat) (x : α) (s : σ) (r : ρ), xs[i]? = some x → inv i s → inv (i + 1) (step s x) ∧ (Ev (L ((i : Int) + 1) (step s x)) r → Ev (L (i : Int) s) r)) :
    ∀ s, inv 0 s → Ev (L 0 s) (fin (xs.foldl step s)) := by
  have key : ∀ (d i : Nat) (s : σ), i + d = xs.length → inv i s → Ev (L (i : Int) s) (fin ((xs.drop i).foldl step s)) := by
    intro d
    induction d with
    | zero =>
      intro i s hd hs
      have hi : i = xs.length := by omega
      subst hi
      rw [List.drop_length]
      exact hend s hs
    | succ d ih =>
      intro i s hd hs
      have hi : i < xs.length := by omega
      rw [List.drop_eq_getElem_cons hi, List.foldl_cons]
      obtain ⟨h1, h2⟩ := hstep i _ s (((xs.drop (i + 1)).foldl step (step s xs[i])) |> fin) (List.getElem?_eq_getElem hi) hs
      refine h2 ?_
      have := ih (i + 1) (step s xs[i]) (by omega) h1
      rwa [show ((i + 1 : Nat) : Int) = (i : Int) + 1 by omega] at this
  intro s hs
  simpa using key xs.length 0 s (by omega) hs
theorem not_any_not {α : Type} (l : List α) (q : α → Bool) : (!(l.any fun x => !(q x))) = l.all q := by
  induction l with
  | nil => rfl
  | cons a r ih => rw [List.any_cons, List.all_cons, Bool.not_or, Bool.not_not, ih]

/-- a count that is small, as the unsigned kind has it -/
theorem u64_in {x : Int} (h0 : 0 ≤ x) (h1 : x ≤ 9223372036854775807) : IntKind.u64.wrap x = x := by
  simp [IntKind.wrap, IntKind.bits, IntKind.signed, IntKind.min, IntKind.max] at *
  omega

/-- Reading an element that is there. -/
theorem getD_some {α : Type} {xs : List α} {i : Nat} {x d : α} (h : xs[i]? = some x) : xs.getD ((i : Int).toNat) d = x := by
  simp [List.getD, h]

end Go.Proofs.YtelfahcjeldliaaDoor.Plain
