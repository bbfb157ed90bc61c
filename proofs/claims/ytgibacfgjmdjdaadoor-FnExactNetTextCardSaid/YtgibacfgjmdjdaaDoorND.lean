/- FnExactNetText: the lines of a network as lists of bytes. Conditions: the form's own reach alone. -/
import Derived.Test.YtgibacfgjmdjdaaDoorNC
import Derived.Test.YtgibacfgjmdjdaaDoorDB2
namespace Go.Proofs.YtgibacfgjmdjdaaDoor.PFnExactIsStable
open Go.RowKit Go.Proofs.YtgibacfgjmdjdaaDoorW.PrintWords Go.Proofs.YtgibacfgjmdjdaaDoorW.PrintLast Go.Proofs.YtgibacfgjmdjdaaDoorW.PrintMore
attribute [local go_sem] max2_int min2_int max_two min_two max_three min_three max_four min_four   -- for this text's walks alone
set_option linter.unusedVariables false
set_option linter.unusedSimpArgs false
set_option maxHeartbeats 8000000
set_option maxRecDepth 100000
theorem flat_snoc {α β : Type} (f : α → List β) (l : List α) (i : Nat) (x : α) (h : l[i]? = some x) : (l.take (i + 1)).flatMap f = (l.take i).flatMap f ++ f x := by
 rw [List.take_add_one, h, List.flatMap_append]
 rw [Option.toList, List.flatMap_cons, List.flatMap_nil, List.append_nil]
theorem flat_le {α β : Type} (f : α → List β) (b : Nat) : ∀ (l : List α), (∀ x ∈ l, (f x).length ≤ b) → (l.flatMap f).length ≤ b * l.length
 | [], _ => by simp
 | x :: l, h => by
  have := flat_le f b l (fun y hy => h y (List.mem_cons_of_mem _ hy))
  have := h x List.mem_cons_self
  rw [List.flatMap_cons, List.length_append, List.length_cons, Nat.mul_succ]
  omega
def nm (l0 : List ByteArray) (i : Int) : List UInt8 := (rdOf ByteArray.empty l0 i).data.toList
theorem sB_data (x : ByteArray) : sB x.data.toList = x := by cases x; simp [sB]
theorem sB_nm (l0 : List ByteArray) (i : Int) : sB (nm l0 i) = rdOf ByteArray.empty l0 i := sB_data _
def whenT (d : Int) : List UInt8 := if d = 0 then [] else if d = 1 then [32, 105, 102, 32, 109, 97, 114, 107] else [32, 105, 102, 32, 112, 108, 97, 105, 110]
def rL (x : ByteArray) : List UInt8 := lineT [[114, 111, 117, 116, 101, 114], x.data.toList]
def lL (l0 : List ByteArray) (x : S92) : List UInt8 := lineT [[108, 105, 110, 107], nm l0 x.f0, nm l0 x.f1, [99, 111, 115, 116], Lib.itoa x.f2]
def oL (l0 : List ByteArray) (x : Int) : List UInt8 := lineT [[111, 114, 105, 103, 105, 110], nm l0 x]
def eL (l0 : List ByteArray) (x : Int) : List UInt8 := lineT [[101, 120, 116, 101, 114, 110, 97, 108], nm l0 x]
def iL (l0 : List ByteArray) (x : S95) : List UInt8 := lineT [[105, 109, 112, 111, 114, 116], nm l0 x.f0, [102, 114, 111, 109], nm l0 x.f1 ++ whenT x.f2 ++ doT x.f3 x.f4]
def fL (l0 : List ByteArray) (x : S97) : List UInt8 := lineT [[102, 105, 108, 116, 101, 114], nm l0 x.f0, [116, 111], nm l0 x.f1, [112, 111, 114, 116], Lib.itoa x.f2, Lib.itoa x.f3]
def inN (n : Nat) (i : Int) : Prop := 0 ≤ i ∧ i < (n : Int)
structure NetFit (l0 : List ByteArray) (l1 : List S92) (l2 l3 : List Int) (l4 : List S95) (l5 : List S97) : Prop where
 name : ∀ x ∈ l0, x.size ≤ 1000
 n0 : l0.length ≤ 1000
 n1 : l1.length ≤ 1000
 n2 : l2.length ≤ 1000
 n3 : l3.length ≤ 1000
 n4 : l4.length ≤ 1000
 n5 : l5.length ≤ 1000
 link : ∀ x ∈ l1, inN l0.length x.f0 ∧ inN l0.length x.f1 ∧ smallI x.f2
 orig : ∀ x ∈ l2, inN l0.length x
 ext : ∀ x ∈ l3, inN l0.length x
 imp : ∀ x ∈ l4, inN l0.length x.f0 ∧ inN l0.length x.f1 ∧ inN 3 x.f2 ∧ (1 ≤ x.f3 ∧ x.f3 ≤ 4) ∧ smallI x.f4
 filt : ∀ x ∈ l5, inN l0.length x.f0 ∧ inN l0.length x.f1 ∧ smallI x.f2 ∧ smallI x.f3
def netT (l0 : List ByteArray) (l1 : List S92) (l2 l3 : List Int) (l4 : List S95) (l5 : List S97) : List UInt8 :=
 l0.flatMap rL ++ l1.flatMap (lL l0) ++ l2.flatMap (oL l0) ++ l3.flatMap (eL l0) ++ l4.flatMap (iL l0) ++ l5.flatMap (fL l0)
def WT (w : World) : Prop := w.cell? ⟨0, 0, none⟩ = some (.string ⟨#[]⟩) ∧ w.cell? ⟨0, 1, none⟩ = some (.string ⟨#[32, 105, 102, 32, 109, 97, 114, 107]⟩) ∧ w.cell? ⟨0, 2, none⟩ = some (.string ⟨#[32, 105, 102, 32, 112, 108, 97, 105, 110]⟩)
theorem data_len (x : ByteArray) : x.data.toList.length = x.size := by cases x; rfl
theorem lensc (x : List UInt8) (r : List (List UInt8)) : Lib.lens (x :: r) = x.length + Lib.lens r := by simp only [Lib.lens, List.map_cons, List.sum_cons]
theorem lensn : Lib.lens [] = 0 := rfl
theorem rdOf_at {l0 : List ByteArray} {k : Nat} {x : ByteArray} (h : l0[k]? = some x) (i : Int) (hi : i.toNat = k) : rdOf ByteArray.empty l0 i = x := by
 unfold rdOf
 rw [hi, List.getD_eq_getElem?_getD, h]
 rfl
theorem nm_le {l0 : List ByteArray} (h : ∀ x ∈ l0, x.size ≤ 1000) (i : Int) : (nm l0 i).length ≤ 1000 := by
 unfold nm
 rw [data_len]
 rcases Nat.lt_or_ge i.toNat l0.length with hi | hi
 · rw [rdOf_at (List.getElem?_eq_getElem hi) i rfl]
   exact h _ (List.getElem_mem hi)
 · unfold rdOf
   rw [List.getD_eq_getElem?_getD, List.getElem?_eq_none hi]
   exact Nat.zero_le _
theorem when_le (d : Int) : (whenT d).length ≤ 9 := by
 unfold whenT
 split
 · decide
 · split <;> decide
theorem do_le {d n : Int} (h : smallI n) : (doT d n).length ≤ 30 := by
 have := itoa_le h
 unfold doT
 split
 · decide
 split
 · rw [List.length_append]; have : ([32, 112, 114, 101, 102, 32] : List UInt8).length = 6 := rfl; omega
 split <;> decide
theorem ln2 (a b : List UInt8) : Lib.lens [a, b] = a.length + b.length := by simp only [lensc, lensn, Nat.add_zero]
theorem ln4 (a b c d : List UInt8) : Lib.lens [a, b, c, d] = a.length + (b.length + (c.length + d.length)) := by simp only [lensc, lensn, Nat.add_zero]
theorem ln5 (a b c d e : List UInt8) : Lib.lens [a, b, c, d, e] = a.length + (b.length + (c.length + (d.length + e.length))) := by simp only [lensc, lensn, Nat.add_zero]
theorem ln7 (a b c d e f g : List UInt8) : Lib.lens [a, b, c, d, e, f, g] = a.length + (b.length + (c.length + (d.length + (e.length + (f.length + g.length))))) := by simp only [lensc, lensn, Nat.add_zero]
theorem line_le {xs : List (List UInt8)} {n : Nat} (h : Lib.lens xs ≤ n) (h7 : xs.length ≤ 7) (hn : n ≤ 3000) : (lineT xs).length ≤ 3100 := by
 cases xs with
 | nil => simp [lineT, Lib.join_nil]
 | cons x r =>
  have := lineT_le x r
  rw [List.length_cons] at h7
  omega
end Go.Proofs.YtgibacfgjmdjdaaDoor.PFnExactIsStable
