/- FnExactRefutation: for every input the law returns true. The texts that this program's session printed and proved for it, those that the proof uses, laid together. Conditions: the form's own reach alone. -/
import Derived.Test.YtelfahcjeldliaaQFnExactRefutation1
import Derived.Deep.Slices
import Derived.ChangeArms
import Derived.SizedLaws
section
namespace Go.Proofs.Ytelfahcjeldliaa.PFnExactRefutation
open Go.RowKit Go.Proofs.YtelfahcjeldliaaW.PrintWords Go.Proofs.YtelfahcjeldliaaW.PrintLast Go.Proofs.YtelfahcjeldliaaW.PrintMore
attribute [local go_sem] max2_int min2_int max_two min_two max_three min_three max_four min_four   -- for this text's walks alone
set_option linter.unusedVariables false
set_option linter.unusedSimpArgs false
set_option maxHeartbeats 4000000 in
set_option maxRecDepth 100000 in
theorem cloneI_any (A : Option Addr) (c : Nat) (l : List Int) (W : World) (hl : Kd.C (Kd.int .i64) W A l.length l) (hp : 0 < l.length) (hn : l.length ≤ 4096) :
  Calls Try.prog 113 #[.slice A l.length c] W fun e W' => ∃ v, e = .returned v ∧ Kd.R (Kd.int .i64) 3 W' W.heap.size (fun _ => True) v l ∧ Below W.heap.size W W' := by
 obtain ⟨ad, ea, -⟩ := Kd.at_int hl 0 (by omega) (by omega)
 subst ea
 have HL := Aside0.mk hl
 have hq := fun (w : World) => Lib.run_eql_slice_nil w 37 3 (some ad) l.length c 0 0 Try.underlying37
 clear hl
 go_enter Try.func113, Try.ntmps113
 go_wp2_with (first
  | ((with_reducible refine gate_dst (N := 5) rfl ?_); refine Kd.R_lit (Kd.int .i64) _ 3 ?hg (N := 5) ?hd (xs := ([] : List Int)) (inner := []) (ok := fun _ => True) (okp := fun _ => True) ?hr ?hp (fun _ hk => hk) trivial (Below.refl _ _) (Nat.le_refl _) (by simp) ?_; (case hd => rfl); (case hg => rfl); (case hr => first | (go_simp; done) | (go_simp; rfl)); (case hp => exact (Reps.none _ _)); intro v1 w3 ho hb hg_ hnew_; clear hg_ hnew_; have HR := Aside0.mk ho; have HB := Aside0.mk hb; clear ho hb)
  | ((with_reducible refine gate_builtin (b := .append) (xs := #[.tmp 5, .tmp 6]) rfl ?_); at_builtin; refine Kd.R_append_rows (Kd.int .i64) (w0 := W) W.heap.size rfl (.tmp 5) (.tmp 6) 37 3 (.int .i64 0) 8 rfl Try.underlying37 info3 rfl (by decide) (by omega) v1 [] l _ _ _ (fun _ => True) (fun _ => False) rfl rfl ?aO ?aR (fun _ _ h => h) (fun _ h => h.elim) ?aF ?aB ?aS ?aL ?_; (case aR => exact Kd.C_below HL.out HB.out); (case aB => exact HB.out); (case aF => exact (fun _ _ => trivial)); (case aO => exact HR.out); (case aS => exact below_size HB.out); (case aL => simp; omega); intro v2 w7 ho hb hg hat; have HR2 := Aside0.mk ho; have HB2 := Aside0.mk hb; clear ho hb hg hat))
 go_ret
 exact ⟨v2, rfl, HR2.out, HB2.out⟩
def stclone_T : Bool × List (List Nat × List Nat) := (true, [([], []), ([0], [0]), ([1], [1]), ([2], [2]), ([], []), ([4], [4]), ([5], [5]), ([6], [6]), ([7], [7]), ([3, 8], [3, 8]), ([9], [9]), ([10, 8, 0, 1, 2, 3, 4, 5, 6, 7, 8, 9, 10], [10])])
def stclone_B : List Nat := [0, 1, 3, 7, 0, 16, 48, 112, 240, 511, 1023, 2047]
theorem stclone_tab : rtab .any (opsOf Try.f110 1) = stclone_T := by kernel_rfl
theorem stclone_bits : waitsOk stclone_T.2 stclone_B = true := by kernel_rfl
set_option maxHeartbeats 4000000 in
set_option maxRecDepth 100000 in
theorem stclone_any (g b : Nat) (vars : Int) (A : Option Addr) (n c cv : Nat) (vals : List Int) (w0 w : World) (hS : ST w0 w g b vars A n c cv vals) (hp : 0 < vals.length) (hn : vals.length ≤ 4096) :
  Calls Try.prog 110 #[.pointer (some ⟨g, 0, none⟩)] w fun e W' => ∃ g2 b2 cv2, e = .returned (.pointer (some ⟨g2, 0, none⟩)) ∧ ST w0 W' g2 b2 vars A n c cv2 vals ∧ w.heap.size ≤ b2 ∧ w.heap.size ≤ g2 ∧ Below w.heap.size w W' := by
 have hu_Cnf := Try.underlying30
 have hu_state := Try.underlying112
 obtain ⟨hc0, hc1, hc2⟩ := hS.cells
 have hcl := fun W' (hW : Below w.heap.size w W') => cloneI_any _ cv vals W' (Kd.C_below hS.reads hW) hp hn
 have HS := Aside0.mk hS
 have HCL := Aside0.mk hcl
 clear hS hcl
 go_enter Try.func110, Try.ntmps110
 go_upto_region 1 with fail
 have HB0 := Aside0.mk (below_drew (Below.refl w.heap.size w))
 refine start_ (n := 12) (S := fun w' => w'.cell? ⟨g, 0, none⟩ = some (.int .i64 vars) ∧ w'.cell? ⟨g, 1, none⟩ = some (.slice A n c) ∧ w'.cell? ⟨g, 2, none⟩ = some (.slice (some ⟨b, 0, none⟩) vals.length cv)) (ds := []) #[false, false, false, false, false, false, false, false, false, false, false, false] (by kernel_rfl) rfl rfl ⟨hc0, hc1, hc2⟩ (fun hHeld => ?_)
 refine with_tabW stclone_tab stclone_bits (fun HT_ HW_ => ?_)
 clear hc0 hc1 hc2
 generalize hw20 : w.drew = w20 at HB0 hHeld ⊢
 have HS2 : Aside0 (ST w0 w20 g b vars A n c cv vals) := ⟨HS.out.below HB0.out⟩
 have HLE := Aside0.mk HB0.out.size
 clear hw20
 refine pure_ (i := 0) (N := some 3) (v := ?_) (a' := ?_) #[true, false, false, false, false, false, false, false, false, false, false, false] rfl rfl (any_of HT_.out (by kernel_rfl)) (fun _ _ _ h => h) (Or.inl ⟨by rfl, ?_⟩) ?_ ?_
 rotate_left
 ·intro w'
  go_simp
  with_reducible rfl
 rotate_left
 ·simp only [Act.put, List.setIfInBounds_toArray, List.set_cons_zero, List.set_cons_succ, i64_w, i32_w]
  rfl
 refine pure_ (i := 1) (N := some 4) (v := ?_) (a' := ?_) #[true, true, false, false, false, false, false, false, false, false, false, false] rfl rfl (any_of HT_.out (by kernel_rfl)) (fun _ _ _ h => h) (Or.inl ⟨by rfl, ?_⟩) ?_ ?_
 rotate_left
 ·intro w'
  go_simp
  with_reducible rfl
 rotate_left
 ·simp only [Act.put, List.setIfInBounds_toArray, List.set_cons_zero, List.set_cons_succ, i64_w, i32_w]
  rfl
 refine pure_ (i := 2) (N := some 5) (v := ?_) (a' := ?_) #[true, true, true, false, false, false, false, false, false, false, false, false] rfl rfl (any_of HT_.out (by kernel_rfl)) (fun _ _ _ h => h) (Or.inl ⟨by rfl, ?_⟩) ?_ ?_
 rotate_left
 ·intro w'
  go_simp
  with_reducible rfl
 rotate_left
 ·simp only [Act.put, List.setIfInBounds_toArray, List.set_cons_zero, List.set_cons_succ, i64_w, i32_w]
  rfl
 refine take_ (i := 3) (N := some 6) (v := ?_) (a' := ?_) #[true, true, true, true, false, false, false, false, false, false, false, false] rfl rfl (take_ofW HT_.out HW_.out (by kernel_rfl)) (fun _ _ _ h => h) (Or.inl ⟨by rfl, ?_⟩) hHeld ?_ ?_
 rotate_left
 ·rintro w' ⟨s0, s1, s2⟩
  go_simp
  with_reducible rfl
 rotate_left
 ·simp only [Act.put, List.setIfInBounds_toArray, List.set_cons_zero, List.set_cons_succ, i64_w, i32_w]
  rfl
 refine pure_ (i := 4) (N := some 7) (v := ?_) (a' := ?_) #[true, true, true, true, true, false, false, false, false, false, false, false] rfl rfl (any_of HT_.out (by kernel_rfl)) (fun _ _ _ h => h) (Or.inl ⟨by rfl, ?_⟩) ?_ ?_
 rotate_left
 ·intro w'
  go_simp
  with_reducible rfl
 rotate_left
 ·simp only [Act.put, List.setIfInBounds_toArray, List.set_cons_zero, List.set_cons_succ, i64_w, i32_w]
  rfl
 refine pure_ (i := 5) (N := some 8) (v := ?_) (a' := ?_) #[true, true, true, true, true, true, false, false, false, false, false, false] rfl rfl (any_of HT_.out (by kernel_rfl)) (fun _ _ _ h => h) (Or.inl ⟨by rfl, ?_⟩) ?_ ?_
 rotate_left
 ·intro w'
  go_simp
  with_reducible rfl
 rotate_left
 ·simp only [Act.put, List.setIfInBounds_toArray, List.set_cons_zero, List.set_cons_succ, i64_w, i32_w]
  rfl
 refine pure_ (i := 6) (N := some 9) (v := ?_) (a' := ?_) #[true, true, true, true, true, true, true, false, false, false, false, false] rfl rfl (any_of HT_.out (by kernel_rfl)) (fun _ _ _ h => h) (Or.inl ⟨by rfl, ?_⟩) ?_ ?_
 rotate_left
 ·intro w'
  go_simp
  with_reducible rfl
 rotate_left
 ·simp only [Act.put, List.setIfInBounds_toArray, List.set_cons_zero, List.set_cons_succ, i64_w, i32_w]
  rfl
 refine take_ (i := 7) (N := some 10) (v := ?_) (a' := ?_) #[true, true, true, true, true, true, true, true, false, false, false, false] rfl rfl (take_ofW HT_.out HW_.out (by kernel_rfl)) (fun _ _ _ h => h) (Or.inl ⟨by rfl, ?_⟩) hHeld ?_ ?_
 rotate_left
 ·rintro w' ⟨s0, s1, s2⟩
  go_simp
  with_reducible rfl
 rotate_left
 ·simp only [Act.put, List.setIfInBounds_toArray, List.set_cons_zero, List.set_cons_succ, i64_w, i32_w]
  rfl
 refine one_ (i := 8) (N := some 11) #[true, true, true, true, true, true, true, true, true, false, false, false] rfl rfl (one_of HT_.out (by kernel_rfl)) (by decide) (fun K hK => ?_)
 refine call_ 113 #[.slice (some ⟨b, 0, none⟩) vals.length cv] (by rfl) rfl ?hrun8 ?h8
 case hrun8 =>
  have he := enters_of Try.func113 (by kernel_rfl) rfl
  unfold execOp
  simp [resolve, Deferred.ofValue, invoke, Act.eval, he]
 refine (HCL.out w20 HB0.out).mono ?_
 rintro e w21 ⟨v, rfl, ho, hb⟩
 obtain ⟨b2, cv2, ev, hb0, hb1, cells, hcells⟩ := Kd.R_form ho hp
 subst ev
 have n0_ := Aside0.mk (HS2.out.below hb)
 have n1_ := Aside0.mk (HB0.out.trans (hb.mono HB0.out.size))
 have n2_ := Aside0.mk ho
 have n3_ := Aside0.mk (show w.heap.size ≤ b2 from Nat.le_trans HB0.out.size hb0)
 have n4_ := Aside0.mk (show w.heap.size ≤ w21.heap.size from Nat.le_trans HB0.out.size hb.size)
 clear hcells hb hb0 ho HS2 HB0 HCL
 refine ⟨_, rfl, ?_⟩
 refine hK.out _ _ ⟨n0_.out.cells.1, n0_.out.cells.2.1, n0_.out.cells.2.2⟩ (fun hHeld => ?_)
 clear hK K
 refine norm_ (a' := ?_) ?_ ?_
 rotate_left
 ·show Act.put _ (some 11) _ = _
  simp only [Act.put, List.setIfInBounds_toArray, List.set_cons_zero, List.set_cons_succ, i64_w, i32_w]
  rfl
 refine pure_ (i := 9) (N := some 12) (v := ?_) (a' := ?_) #[true, true, true, true, true, true, true, true, true, true, false, false] rfl rfl (any_of HT_.out (by kernel_rfl)) (fun _ _ _ h => h) (Or.inl ⟨by rfl, ?_⟩) ?_ ?_
 rotate_left
 ·intro w'
  go_simp
  with_reducible rfl
 rotate_left
 ·simp only [Act.put, List.setIfInBounds_toArray, List.set_cons_zero, List.set_cons_succ, i64_w, i32_w]
  rfl
 refine one_ (i := 10) (N := some 13) #[true, true, true, true, true, true, true, true, true, true, true, false] rfl rfl (one_of HT_.out (by kernel_rfl)) (by decide) (fun K hK => ?_)
 refine box_step (by rfl) (N := 13) rfl (cs := #[.int .i64 vars, .slice A n c, .slice (some ⟨b2, 0, none⟩) vals.length cv2]) (t := 112) ?hr13 ?_
 case hr13 => first | (go_simp; done) | (go_simp; rfl)
 intro g2 hg2 w22 hbox hb2
 have m0_ := Aside0.mk (n0_.out.below hb2)
 have m1_ := Aside0.mk (n1_.out.trans (hb2.mono n1_.out.size))
 have m2_ := Aside0.mk (Kd.R_lower (Kd.R_below n2_.out hb2) (Nat.le_trans HS.out.base.size HLE.out))
 have m3_ := Aside0.mk hbox
 have m4_ := Aside0.mk (show w.heap.size ≤ g2 by rw [hg2]; exact n4_.out)
 clear n0_ n1_ n2_ n4_ hbox hb2 hg2
 refine hK.out _ _ ⟨m0_.out.cells.1, m0_.out.cells.2.1, m0_.out.cells.2.2⟩ (fun hHeld => ?_)
 clear hK K
 refine norm_ (a' := ?_) ?_ ?_
 rotate_left
 ·show Act.put _ (some 13) _ = _
  simp only [Act.put, List.setIfInBounds_toArray, List.set_cons_zero, List.set_cons_succ, i64_w, i32_w]
  rfl
 refine pure_ (i := 11) (N := some 2) (v := ?_) (a' := ?_) #[true, true, true, true, true, true, true, true, true, true, true, true] rfl rfl (any_of HT_.out (by kernel_rfl)) (fun _ _ _ h => h) (Or.inl ⟨by rfl, ?_⟩) ?_ ?_
 rotate_left
 ·intro w'
  go_simp
  with_reducible rfl
 rotate_left
 ·simp only [Act.put, List.setIfInBounds_toArray, List.set_cons_zero, List.set_cons_succ, i64_w, i32_w]
  rfl
 refine done_ (done_of HT_.out (by kernel_rfl)) ?_
 go_wp2
 go_ret
 exact ⟨g2, b2, cv2, rfl, ⟨HS.out.base.trans (m1_.out.mono HS.out.base.size), Nat.le_trans HS.out.base.size m4_.out, m3_.out, m2_.out⟩, n3_.out, m4_.out, m1_.out⟩
theorem inf68 : (Try.prog.info? 68).map (fun i => (i.zero, i.size, i.bytes)) = some (some (.agg #[.bool false, .slice none 0 0]), 2, 32) := by kernel_rfl
def leafG (ch : List Int) (st : List S68) : Option (Int × List S68) := if st.length ≤ 200 then (if st.length = 200 ∨ 12 < ch.length then some (7, st) else some (0, st ++ [⟨false, ch.map (fun x => -x)⟩])) else none
def goIt (go : Int → List S68 → Option (Int × List S68)) : List Int → List S68 → Option (Int × List S68)
 | [], st => some (0, st)
 | x :: r, st => (go x st).bind fun p => if p.1 = 0 then goIt go r p.2 else some p
def goL (cs : List (List Int)) (K : Nat) : Nat → List Int → List Int → List S68 → Option (Int × List S68)
 | 0, _, _, _ => none
 | n + 1, vals, ch, st => (propL cs K vals []).bind fun t => if 0 ≤ t.2.2 then leafG ch st else if openL t.1 = 0 then some (6, st) else if ch.length ≤ 4096 then (goIt (fun x st => goL cs K n (setL t.1 x) (ch ++ [x]) st) [-(openL t.1), openL t.1] st).bind fun p => if p.1 = 0 then leafG ch p.2 else some p else none
def RW (b R : Nat) (v : Value) (k : Nat) : Prop := k = b ∨ k = R ∨ v.ownBlock = some k
def RK (ok : Nat → Prop) (w : World) (k : Nat) : Prop := ok k ∨ w.heap.size ≤ k
theorem heap_set {w : World} {N j : Nat} {cs : Array Value} {t : TypeId} {u : Value} (h : w.heap[N]? = some (.cells cs t (0, 0))) : (w.setCell ⟨N, j, none⟩ u).heap[N]? = some (.cells (cs.setIfInBounds j u) t (0, 0)) := by
 rw [setCell_eq_setRow w N j cs t (0, 0) u h]
 exact setRow_heap w N cs _ t _ h
section
variable {w0 W W2 : World} {g b : Nat} {vars : Int} {A : Option Addr} {n c cv : Nat} {vals : List Int} {S : Nat → Prop}
theorem ST.kept (h : ST w0 W g b vars A n c cv vals) (hk : Kept W W2 S) (hB : Below w0.heap.size w0 W2) (h1 : ¬ S g) (h2 : ¬ S b) : ST w0 W2 g b vars A n c cv vals :=
 ⟨hB, h.old, (hk.2 g h.glt h1).trans h.blk, Kd.R_mono (Kd.R_kept (Kd.R_tight rfl h.own) hk (fun k hk' hS => h2 ((Option.some.inj (show some k = some b from hk')) ▸ hS))) (fun _ _ => trivial)⟩
end
theorem openL_rng (vals : List Int) (hp : 0 < vals.length) : 0 ≤ openL vals ∧ openL vals < vals.length := by
 have := idxL_range 0 (vals.drop 1) 0
 unfold openL
 rw [List.length_drop] at this
 omega
theorem propL_len (cs : List (List Int)) : ∀ (k : Nat) (vals list v2 li : List Int) (a : Int), propL cs k vals list = some (v2, li, a) → v2.length = vals.length
 | 0, _, _, _, _, _, h => by simp [propL] at h
 | k + 1, vals, list, v2, li, a, h => by
  rw [propL] at h
  generalize scanL vals cs 0 0 = q at h
  obtain ⟨o, next⟩ := q
  cases o with
  | some i =>
   simp only [Option.some.injEq, Prod.mk.injEq] at h
   rw [h.1]
  | none =>
   simp only at h
   by_cases h0 : next = 0
   ·rw [if_pos h0] at h
    simp only [Option.some.injEq, Prod.mk.injEq] at h
    rw [h.1]
   ·rw [if_neg h0] at h
    by_cases h1 : list.length < 17592186044416
    ·rw [if_pos h1] at h
     rw [propL_len cs k _ _ v2 li a h, setL_length]
    ·rw [if_neg h1] at h
     cases h
theorem row_step {W W2 : World} {base : Nat} {ok S : Nat → Prop} {v : Value} {l : List Int} (h : Kd.R (Kd.int .i64) 3 W base ok v l) (hk : Kept W W2 S) (hn : ∀ k, v.ownBlock = some k → ¬ S k) : Kd.R (Kd.int .i64) 3 W2 base ok v l :=
 Kd.R_mono (Kd.R_kept (Kd.R_tight2 rfl h) hk (fun k hk' => hn k hk'.1.symm)) (fun _ hk' => hk'.2)
theorem own_ty {W : World} {base : Nat} {ok : Nat → Prop} {v : Value} {l : List Int} {g t : Nat} {cells : Array Value} (h : Kd.R (Kd.int .i64) 3 W base ok v l) (hb : W.heap[g]? = some (.cells cells t (0, 0))) (ht : t ≠ 3) : v.ownBlock ≠ some g := fun e => by
 obtain ⟨cs, hcs⟩ := Kd.R_typed h g e
 rw [hb] at hcs
 cases hcs
 exact ht rfl
theorem stp_ty {W : World} {base : Nat} {ok : Nat → Prop} {v : Value} {l : List S68} {g t : Nat} {cells : Array Value} (h : Kd.S k68 68 W base ok v l) (hb : W.heap[g]? = some (.cells cells t (0, 0))) (ht : t ≠ 68) : v.ownBlock ≠ some g := fun e => by
 obtain ⟨cs, hcs⟩ := Kd.S_typed h g e
 rw [hb] at hcs
 cases hcs
 exact ht rfl
theorem stp_row {W : World} {base base' : Nat} {ok ok' : Nat → Prop} {v vs : Value} {l : List Int} {st : List S68} (h : Kd.S k68 68 W base ok vs st) (h2 : Kd.R (Kd.int .i64) 3 W base' ok' v l) {k : Nat} (e : vs.ownBlock = some k) (e2 : v.ownBlock = some k) : False := by
 obtain ⟨cs, hcs⟩ := Kd.S_typed h k e
 exact own_ty h2 hcs (by decide) e2
theorem foot_Ki {W : World} {A : Option Addr} {c : Nat} {l : List Int} (h : Kd.C (Kd.int .i64) W A l.length l) (hc : l.length ≤ c) : Kd.FK (Kd.slice 3 (Kd.int .i64)) W (fun k => k < W.heap.size) l [.slice A l.length c] := fun W' hW => ⟨A, c, rfl, hc, (Kd.C_F (Kd.heap_int .i64) h) W' hW⟩
def goOn_T : Bool × List (List Nat × List Nat) := (true, [([], []), ([], []), ([1], [1]), ([2], [2]), ([3], [3]), ([], []), ([5], [5]), ([4, 6], [4, 6]), ([0, 0, 1, 2, 3, 4, 5, 6, 7], [0]), ([8, 0, 1, 2, 3, 4, 5, 6, 7], [8]), ([9, 7, 7, 0, 1, 2, 3, 4, 5, 6, 7], [7, 9])])
def goOn_B : List Nat := [0, 0, 2, 6, 14, 0, 32, 126, 1, 257, 1023]
theorem goOn_tab : rtab .any (opsOf Try.f80 23) = goOn_T := by kernel_rfl
theorem goOn_bits : waitsOk goOn_T.2 goOn_B = true := by kernel_rfl
set_option maxHeartbeats 8000000 in
set_option maxRecDepth 100000 in
theorem goOn_any (a : Int) (A : Option Addr) (c : Nat) (cs : List (List Int)) (w0 : World) (b N : Nat) (hC : Kd.C (Kd.slice 3 (Kd.int .i64)) w0 A cs.length cs) (hN : N ≤ 4096) (hp : 0 < N) (hfit : (cs.all fun c => fitL N c) = true) (hbb : w0.heap.size ≤ b) (K : Nat) :
  ∀ (n : Nat) (g R cv : Nat) (vals : List Int) (vch : Value) (ch : List Int) (vs : Value) (st : List S68) (ok : Nat → Prop) (code : Int) (st' : List S68) (w : World),
   vals.length = N → (∀ x ∈ ch, x.natAbs < N) → ST w0 w g R a A cs.length c cv vals → w.heap[b]? = some (.cells #[.int .i64 a, .slice A cs.length c, vs] 95 (0, 0)) → Kd.R (Kd.int .i64) 3 w w0.heap.size (fun k => k ≠ R) vch ch → Kd.S k68 68 w w0.heap.size ok vs st → (∀ k, ok k → k ≠ R) → goL cs K n vals ch st = some (code, st') →
   Calls Try.prog 80 #[.pointer (some ⟨b, 0, none⟩), .pointer (some ⟨g, 0, none⟩), vch] w fun e W' => e = .returned (.int .i64 code) ∧ ∃ vs', W'.heap[b]? = some (.cells #[.int .i64 a, .slice A cs.length c, vs'] 95 (0, 0)) ∧ Kd.S k68 68 W' w0.heap.size (RK ok w) vs' st' ∧ Kept w W' (RW b R vs) ∧ Below w0.heap.size w0 W' ∧ (vs'.ownBlock = vs.ownBlock ∨ ∃ k, vs'.ownBlock = some k ∧ w.heap.size ≤ k) := by
 intro n
 induction n with
 | zero => intro g R cv vals vch ch vs st ok code st' w _ _ _ _ _ _ _ h; simp [goL] at h
 | succ n ih =>
  intro g R cv vals vch ch vs st ok code st' w hv hch hS hbx hrc hst hok h
  rw [goL] at h
  obtain ⟨⟨va, li, at_⟩, hpr, h2⟩ := Option.bind_eq_some_iff.1 h
  clear h
  have h := h2
  clear h2
  simp only at h
  have hl1 : va.length = N := by
   rw [← hv]
   exact propL_len cs K vals [] va li at_ hpr
  have hprop := propagate_any K g R a A c cv cs vals va li at_ w0 w hS hC (by rw [hv]; exact hfit) (by omega) (by omega) hpr
  have HGR := Aside0.mk (And.intro hS.glt hS.blt)
  have HGT := Aside0.mk hS.blk
  have HRO := Aside0.mk hS.bold
  have HBB := Aside0.mk hbb
  have HCH := Aside0.mk hch
  have HN := Aside0.mk hN
  have HOK := Aside0.mk hok
  have IH := Aside0.mk ih
  have BX0 := Aside0.mk hbx
  have HS0 := Aside0.mk hst
  have HRC0 := Aside0.mk hrc
  have HBNR := Aside0.mk (show b ≠ R from fun e => own_ty hS.own hbx (by decide) (by rw [e]; rfl))
  clear hS ih hbx hst hrc hch hok
  obtain ⟨Ach, cch, ech⟩ := Kd.R_slice HRC0.out
  subst ech
  go_enter Try.func80, Try.ntmps80
  go_upto_region 2 with (go_at_call 71; refine hprop.mono ?_; rintro e w1 ⟨vl, rfl, -, hS1, -, hk1, hb1⟩)
  clear hprop
  have HW := Aside0.mk hb1
  have HK1 := Aside0.mk (show Kept w w1 (RW b R vs) from (Kept.refl w _).of_keep hk1 (.inl (.inr (.inl rfl))))
  have BX := Aside0.mk ((hk1.2 b (blk_lt BX0.out) HBNR.out (by simp)).trans BX0.out)
  have HS := Aside0.mk (Kd.S_keep HS0.out hk1 HOK.out)
  have HRC := Aside0.mk (Kd.R_keep HRC0.out hk1 (fun _ hk => hk))
  have HS1 := Aside0.mk hS1
  clear hk1 hb1 hS1 BX0 HS0 HRC0
  by_cases h0 : 0 ≤ at_
  ·rw [if_pos h0] at h
   have HLF := Aside0.mk h
   have t0 : ¬ at_ < 0 := by omega
   clear h h0 IH
   obtain ⟨okl, eok⟩ : ∃ o : Nat → Prop, o = ok := ⟨_, rfl⟩
   have FIN : Aside0 (∀ W' vs', W'.heap[b]? = some (.cells #[.int .i64 a, .slice A cs.length c, vs'] 95 (0, 0)) → Kd.S k68 68 W' w0.heap.size (RK okl w1) vs' st' → Kept w1 W' (fun k => k = b ∨ vs.ownBlock = some k) → Below w0.heap.size w0 W' → (vs'.ownBlock = vs.ownBlock ∨ ∃ k, vs'.ownBlock = some k ∧ w1.heap.size ≤ k) → (W'.heap[b]? = some (.cells #[.int .i64 a, .slice A cs.length c, vs'] 95 (0, 0)) ∧ Kd.S k68 68 W' w0.heap.size (RK ok w) vs' st' ∧ Kept w W' (RW b R vs) ∧ Below w0.heap.size w0 W' ∧ (vs'.ownBlock = vs.ownBlock ∨ ∃ k, vs'.ownBlock = some k ∧ w.heap.size ≤ k))) := ⟨fun W' vs' f1 f2 f3 f4 f5 => ⟨f1, Kd.S_mono f2 (fun k hk => hk.imp (fun h => eok ▸ h) (fun h => Nat.le_trans HK1.out.1 h)), HK1.out.then_ f3 (fun k hk => .inl (hk.imp id .inr)), f4, f5.imp id (fun ⟨k, h1, h2⟩ => ⟨k, h1, Nat.le_trans HK1.out.1 h2⟩)⟩⟩
   rw [← eok] at HS
   have EOK := Aside0.mk eok
   clear eok HOK HK1
   obtain ⟨Ast, cst, est⟩ := Kd.S_slice HS.out
   subst est
   have x2 := (blk_cell BX.out 2).trans (show _ = some (.slice Ast st.length cst) from rfl)
   have hlf := HLF.out
   unfold leafG at hlf
   have hst9 : st.length ≤ 200 := by
    by_cases h9 : st.length ≤ 200
    ·exact h9
    ·rw [if_neg h9] at hlf; cases hlf
   rw [if_pos hst9] at hlf
   have HST := Aside0.mk hst9
   clear HLF hst9
   by_cases h200 : st.length = 200
   ·rw [if_pos (.inl h200)] at hlf
    cases hlf
    have t1 : ((st.length : Int) == 200) = true := by rw [h200]; rfl
    clear h200
    go_wp2
    go_ret
    exact ⟨rfl, _, FIN.out _ _ BX.out (Kd.S_mono HS.out (fun _ hk => .inl hk)) (Kept.refl _ _) HW.out (.inl rfl)⟩
   have t1 : ((st.length : Int) == 200) = false := beq_eq_false_iff_ne.mpr (by omega)
   by_cases h12 : 12 < ch.length
   ·rw [if_pos (.inr h12)] at hlf
    cases hlf
    have t2 : (12 : Int) < (ch.length : Int) := by omega
    clear h12 h200
    go_wp2
    go_ret
    exact ⟨rfl, _, FIN.out _ _ BX.out (Kd.S_mono HS.out (fun _ hk => .inl hk)) (Kept.refl _ _) HW.out (.inl rfl)⟩
   rw [if_neg (fun h => h.elim h200 h12)] at hlf
   cases hlf
   have t2 : ¬ (12 : Int) < (ch.length : Int) := by omega
   have H12 := Aside0.mk h12
   have H200 := Aside0.mk h200
   clear h12 h200
   go_upto_region 17 with fail
   clear x2 t1 t2
   obtain ⟨t, ht⟩ : ∃ t, w1.heap.size = t := ⟨_, rfl⟩
   go_upto_region 18 with fail
   have hb2 : Below w1.heap.size w1 (w1.alloc (.cells #[.bool false, .slice none 0 0] 68)) := below_alloc (Below.refl _ _) _
   have k1 : (w1.alloc (.cells #[.bool false, .slice none 0 0] 68)).heap[t]? = some (.cells #[.bool false, .slice none 0 0] 68 (0, 0)) := by rw [← ht]; exact blk_new w1 _
   generalize w1.alloc (.cells #[.bool false, .slice none 0 0] 68) = w2 at hb2 k1 ⊢
   have HT := Aside0.mk ht
   have HB2 := Aside0.mk hb2
   have HK := Aside0.mk k1
   clear ht hb2 k1
   go_wp2
   go_loopg [67] ch.length (fun gg v67 wr => ∃ (i : Nat) (v : Value), v67 = .int .i64 i ∧ i ≤ ch.length ∧ ch.length - i ≤ gg ∧ Aside0 (wr.heap[t]? = some (.cells #[.bool false, v] 68 (0, 0))) ∧ Aside0 (Kd.R (Kd.int .i64) 3 wr w1.heap.size (fun _ => True) v ((ch.take i).map (fun x => -x))) ∧ Aside0 (Below w1.heap.size w1 wr))
   case atStart => exact ⟨0, _, rfl, Nat.zero_le _, by omega, HK, ⟨Kd.R_nil _ _ _ _ _⟩, HB2⟩
   case round =>
    clear HK HB2
    obtain ⟨i, v, rfl, hi, hg, HK, HV, HB⟩ := hrel
    by_cases hlt : i < ch.length
    ·obtain ⟨q, cap, eq_, -, -, -⟩ := Kd.R_form HRC.out (by omega)
     cases eq_
     obtain ⟨hc0, -⟩ := Kd.R_celln 0 HRC.out (i : Int) (by omega) (by omega)
     rw [Int.toNat_natCast] at hc0
     have hrd : rdOf 0 ch (i : Int) = ch[i] := by unfold rdOf; simp [List.getD, hlt]
     rw [hrd] at hc0
     have hc1 := (HB.out.cell (World.block_lt_of_cell? w1 _ hc0)).trans hc0
     have hci := HCH.out _ (List.getElem_mem hlt)
     have htk : (ch.take (i + 1)).map (fun x => -x) = (ch.take i).map (fun x => -x) ++ [-ch[i]] := by rw [List.take_succ_eq_append_getElem hlt, List.map_append]; rfl
     have HTK := Aside0.mk htk
     clear htk hrd hc0
     generalize ch[i] = x at hc1 hci HTK
     have ew : IntKind.i64.wrap ((i : Int) + 1) = ((i + 1 : Nat) : Int) := IntWalk.i64_in _ (by have := H12.out; omega)
     have ewx : IntKind.i64.wrap (-x) = -x := IntWalk.i64_in _ (by have := HN.out; omega)
     have hltz : (i : Int) < (ch.length : Int) := by omega
     have h0z : (0 : Int) ≤ (i : Int) := by omega
     have y0 := (blk_cell HK.out 0).trans (show _ = some (.bool false) from rfl)
     have y1 := (blk_cell HK.out 1).trans (show _ = some v from rfl)
     obtain ⟨Av, cv_, ev_⟩ := Kd.R_slice HV.out
     have hvl : ((ch.take i).map (fun x => -x)).length = i := by rw [List.length_map, List.length_take]; omega
     rw [hvl] at ev_
     subst ev_
     clear hci
     go_upto_region 22 with ((with_reducible refine gate_builtin (b := .append) (xs := #[.tmp 72, .tmp 75]) rfl ?_); at_builtin; refine Kd.R_append (Kd.int .i64) (w0 := w1) w1.heap.size rfl (.tmp 72) (.tmp 75) 37 3 (.int .i64 0) 8 rfl Try.underlying37 info3 rfl (by decide) (by omega) (.slice Av i cv_) ((ch.take i).map (fun x => -x)) (-x) [.int .i64 (-x)] (fun _ => True) (fun _ => False) rfl rfl ?aP (fun _ hk => hk.elim) ?aF ?aO ?aB ?aS ?aL ?_; (case aP => exact rfl); (case aF => exact fun _ _ => trivial); (case aO => exact HV.out); (case aB => exact HB.out); (case aS => exact HB.out.size); (case aL => rw [List.length_map, List.length_take]; have := H12.out; omega); intro v1 w1 ho hb hg2 hat; obtain ⟨A1, c1_, e1_⟩ := Kd.R_slice ho; rw [List.length_append, hvl] at e1_; subst e1_; have n0_ := Aside0.mk ho; have n1_ := Aside0.mk hb; have n2_ := Aside0.mk (blk_grown HK.out hg2 (Kd.R_ne HV.out HK.out (by decide))); clear HV HB HK y0 y1 hc1; have y1 := (blk_cell n2_.out 1).trans (show _ = some (.slice Av i cv_) from rfl); have z1 := blk_frozen n2_.out 1; clear ho hb hg2 hat)
     have hz := heap_set (j := 1) (u := .slice A1 (i + 1) c1_) n2_.out
     have m0_ := Aside0.mk (show (w1.setCell ⟨t, 1, none⟩ (.slice A1 (i + 1) c1_)).heap[t]? = some (.cells #[.bool false, .slice A1 (i + 1) c1_] 68 (0, 0)) from hz)
     have m1_ := Aside0.mk (Kd.R_set n0_.out n2_.out (by decide) 1 (.slice A1 (i + 1) c1_))
     have m2_ := Aside0.mk (n1_.out.setCell (p := ⟨t, 1, none⟩) (Nat.le_of_eq HT.out) (.slice A1 (i + 1) c1_))
     clear hz hvl n0_ n1_ n2_ y1 z1
     generalize w1.setCell ⟨t, 1, none⟩ (.slice A1 (i + 1) c1_) = w1s at m0_ m1_ m2_ ⊢
     go_wp2
     go_roundg (gk - 1)
     case measure => omega
     case rel => exact ⟨i + 1, _, rfl, by omega, by omega, m0_, ⟨by rw [HTK.out]; exact m1_.out⟩, m2_⟩
    ·obtain rfl : i = ch.length := by omega
     go_upto_region 23 with fail
     have hvv := HV.out
     rw [List.take_length] at hvv
     have HV2 := Aside0.mk hvv
     clear hvv HV hlt
     have BXr := Aside0.mk (blk_below BX.out HB.out)
     have HBW := Aside0.mk (HW.out.trans (HB.out.mono HW.out.size))
     have HSr := Aside0.mk (Kd.S_below (Kd.S_bound HS.out) HB.out)
     have HWS := Aside0.mk (show w1.heap.size ≤ wr.heap.size from HB.out.size)
     have hu_68 := Try.underlying68
     refine start_ (n := 11) (S := fun w' => w'.cell? ⟨b, 2, none⟩ = some (.slice Ast st.length cst) ∧ w'.cell? ⟨t, 0, none⟩ = some (.bool false) ∧ w'.cell? ⟨t, 1, none⟩ = some v) (ds := [10]) #[false, false, false, false, false, false, false, false, false, false, false] (by kernel_rfl) rfl rfl ⟨(blk_cell BXr.out 2).trans rfl, (blk_cell HK.out 0).trans rfl, (blk_cell HK.out 1).trans rfl⟩ (fun hHeld => ?_)
     refine with_tabW goOn_tab goOn_bits (fun HT_ HW_ => ?_)
     have j0_ : Aside0 (wr.drew.heap[b]? = some (.cells #[.int .i64 a, .slice A cs.length c, .slice Ast st.length cst] 95 (0, 0))) := ⟨BXr.out⟩
     have j1_ : Aside0 (wr.drew.heap[t]? = some (.cells #[.bool false, v] 68 (0, 0))) := ⟨HK.out⟩
     have j2_ := Aside0.mk (below_drew HB.out)
     have j3_ := Aside0.mk (below_drew HBW.out)
     have j4_ := Aside0.mk (Kd.S_drew HSr.out)
     have j5_ := Aside0.mk (Kd.R_drew HV2.out)
     have j6_ : Aside0 (w1.heap.size ≤ wr.drew.heap.size) := ⟨HWS.out⟩
     clear BXr HK HB HBW HSr HV2 HWS
     generalize wr.drew = w20 at j0_ j1_ j2_ j3_ j4_ j5_ j6_ hHeld ⊢
     refine pure_ (i := 0) (N := some 79) (v := ?_) (a' := ?_) #[true, false, false, false, false, false, false, false, false, false, false] rfl rfl (any_of HT_.out (by kernel_rfl)) (fun _ _ _ h => h) (Or.inl ⟨by rfl, ?_⟩) ?_ ?_
     rotate_left
     ·intro w'
      go_simp
      with_reducible rfl
     rotate_left
     ·simp only [Act.put, List.setIfInBounds_toArray, List.set_cons_zero, List.set_cons_succ, i64_w, i32_w]
      rfl
     refine pure_ (i := 1) (N := some 80) (v := ?_) (a' := ?_) #[true, true, false, false, false, false, false, false, false, false, false] rfl rfl (any_of HT_.out (by kernel_rfl)) (fun _ _ _ h => h) (Or.inl ⟨by rfl, ?_⟩) ?_ ?_
     rotate_left
     ·intro w'
      go_simp
      with_reducible rfl
     rotate_left
     ·simp only [Act.put, List.setIfInBounds_toArray, List.set_cons_zero, List.set_cons_succ, i64_w, i32_w]
      rfl
     refine pure_ (i := 2) (N := some 81) (v := ?_) (a' := ?_) #[true, true, true, false, false, false, false, false, false, false, false] rfl rfl (any_of HT_.out (by kernel_rfl)) (fun _ _ _ h => h) (Or.inl ⟨by rfl, ?_⟩) ?_ ?_
     rotate_left
     ·intro w'
      go_simp
      with_reducible rfl
     rotate_left
     ·simp only [Act.put, List.setIfInBounds_toArray, List.set_cons_zero, List.set_cons_succ, i64_w, i32_w]
      rfl
     refine pure_ (i := 3) (N := some 82) (v := ?_) (a' := ?_) #[true, true, true, true, false, false, false, false, false, false, false] rfl rfl (any_of HT_.out (by kernel_rfl)) (fun _ _ _ h => h) (Or.inl ⟨by rfl, ?_⟩) ?_ ?_
     rotate_left
     ·intro w'
      go_simp
      with_reducible rfl
     rotate_left
     ·simp only [Act.put, List.setIfInBounds_toArray, List.set_cons_zero, List.set_cons_succ, i64_w, i32_w]
      rfl
     refine take_ (i := 4) (N := some 83) (v := ?_) (a' := ?_) #[true, true, true, true, true, false, false, false, false, false, false] rfl rfl (take_ofW HT_.out HW_.out (by kernel_rfl)) (fun _ _ _ h => h) (Or.inl ⟨by rfl, ?_⟩) hHeld ?_ ?_
     rotate_left
     ·rintro w' ⟨s0, s1, s2⟩
      go_simp
      with_reducible rfl
     rotate_left
     ·simp only [Act.put, List.setIfInBounds_toArray, List.set_cons_zero, List.set_cons_succ, i64_w, i32_w]
      rfl
     refine take_ (i := 5) (N := some 84) (v := ?_) (a' := ?_) #[true, true, true, true, true, true, false, false, false, false, false] rfl rfl (take_ofW HT_.out HW_.out (by kernel_rfl)) (fun _ _ _ h => h) (Or.inl ⟨by rfl, ?_⟩) hHeld ?_ ?_
     rotate_left
     ·rintro w' ⟨s0, s1, s2⟩
      go_simp
      with_reducible rfl
     rotate_left
     ·simp only [Act.put, List.setIfInBounds_toArray, List.set_cons_zero, List.set_cons_succ, i64_w, i32_w]
      rfl
     refine one_ (i := 6) (N := some 85) #[true, true, true, true, true, true, true, false, false, false, false] rfl rfl (one_of HT_.out (by kernel_rfl)) (by decide) (fun K hK => ?_)
     refine value_ (w1 := ?_) (v := ?_) (by rfl) rfl ?_ ?_
     rotate_left 2
     ·go_simp
      constructor
      ·rfl
      ·rfl
     refine hK.out _ _ ⟨(blk_cell (blk_alloc j0_.out _) 2).trans rfl, (blk_cell (blk_alloc j1_.out _) 0).trans rfl, (blk_cell (blk_alloc j1_.out _) 1).trans rfl⟩ (fun hHeld => ?_)
     clear hK K
     refine norm_ (a' := ?_) ?_ ?_
     rotate_left
     ·show Act.put _ (some 85) _ = _
      simp only [Act.put, List.setIfInBounds_toArray, List.set_cons_zero, List.set_cons_succ, i64_w, i32_w]
      rfl
     refine one_ (i := 7) (N := some 86) #[true, true, true, true, true, true, true, true, false, false, false] rfl rfl (one_of HT_.out (by kernel_rfl)) (by decide) (fun K hK => ?_)
     refine Kd.S_append_step k68 (w0 := w0) w0.heap.size (by rfl) (.tmp 83) (.tmp 85) 32 68 (.agg #[.bool false, .slice none 0 0]) 32 rfl Try.underlying32 inf68 rfl (by decide) (by omega) (.slice Ast st.length cst) st (⟨false, ch.map (fun x => -x)⟩ : S68) [.bool false, v] (RK okl w1) (fun k => w1.heap.size ≤ k) rfl rfl ?aP ?aK ?aF ?aO ?aB ?aS ?aL ?_
     case aP => exact ⟨_, _, rfl, rfl, ⟨v, rfl, Kd.R_mono (Kd.R_lower (Kd.R_bound j5_.out) HW.out.size) (fun k hk => hk.2.1)⟩⟩
     case aK => exact fun k hk => ⟨.inr hk, fun e => by have := Kd.S_lt HS.out k e.symm; omega⟩
     case aF => exact fun k hk => .inr (Nat.le_trans j6_.out hk)
     case aO => exact Kd.S_mono j4_.out (fun k hk => ⟨.inl hk.1, by have := hk.2.2.1; omega⟩)
     case aB => exact j3_.out
     case aS => exact j3_.out.size
     case aL => have := HST.out; omega
     intro v1 w21 ho hb hg hat
     obtain ⟨A1, c1_, e1_⟩ := Kd.S_slice ho
     have hl9 : (st ++ [(⟨false, ch.map (fun x => -x)⟩ : S68)]).length = st.length + 1 := by simp
     rw [hl9] at e1_
     subst e1_
     have n0_ := Aside0.mk (blk_grown j0_.out hg (fun e => Kd.S_ne HS.out BX.out (by decide) e))
     have n1_ := Aside0.mk (blk_grown j1_.out hg (fun e => by have := Kd.S_lt HS.out t e.symm; have := HT.out; omega))
     have n2_ := Aside0.mk ho
     have n3_ := Aside0.mk hb
     have n4_ : Aside0 (Kept w1 w21 (fun k => k = b ∨ (Value.slice Ast st.length cst).ownBlock = some k)) := ⟨Kept.of_grown hg (Kept.of_below j2_.out _) (fun k hk => .inl (.inr hk))⟩
     have n5_ : Aside0 ((Value.slice A1 (st.length + 1) c1_).ownBlock = (Value.slice Ast st.length cst).ownBlock ∨ ∃ k, (Value.slice A1 (st.length + 1) c1_).ownBlock = some k ∧ w1.heap.size ≤ k) := ⟨hat.imp id (fun ⟨k, h1, h2⟩ => ⟨k, h1, Nat.le_trans j6_.out h2⟩)⟩
     clear j0_ j1_ j2_ j3_ j4_ j5_ ho hb hg hat
     refine hK.out _ _ ⟨(blk_cell n0_.out 2).trans rfl, (blk_cell n1_.out 0).trans rfl, (blk_cell n1_.out 1).trans rfl⟩ (fun hHeld => ?_)
     clear hK K
     refine norm_ (a' := ?_) ?_ ?_
     rotate_left
     ·show Act.put _ (some 86) _ = _
      simp only [Act.put, List.setIfInBounds_toArray, List.set_cons_zero, List.set_cons_succ, i64_w, i32_w]
      rfl
     refine pure_ (i := 8) (N := some 87) (v := ?_) (a' := ?_) #[true, true, true, true, true, true, true, true, true, false, false] rfl rfl (any_of HT_.out (by kernel_rfl)) (fun _ _ _ h => h) (Or.inl ⟨by rfl, ?_⟩) ?_ ?_
     rotate_left
     ·intro w'
      go_simp
      with_reducible rfl
     rotate_left
     ·simp only [Act.put, List.setIfInBounds_toArray, List.set_cons_zero, List.set_cons_succ, i64_w, i32_w]
      rfl
     refine pure_ (i := 9) (N := some 88) (v := ?_) (a' := ?_) #[true, true, true, true, true, true, true, true, true, true, false] rfl rfl (any_of HT_.out (by kernel_rfl)) (fun _ _ _ h => h) (Or.inl ⟨by rfl, ?_⟩) ?_ ?_
     rotate_left
     ·intro w'
      go_simp
      with_reducible rfl
     rotate_left
     ·simp only [Act.put, List.setIfInBounds_toArray, List.set_cons_zero, List.set_cons_succ, i64_w, i32_w]
      rfl
     refine last_ (i := 10) (N := none) #[true, true, true, true, true, true, true, true, true, true, true] rfl rfl (one_of HT_.out (by kernel_rfl)) (by decide) (fun K hK => ?_)
     have hs1 : w21.cell? ⟨b, 2, none⟩ = some (.slice Ast st.length cst) := (blk_cell n0_.out 2).trans rfl
     have hfs1 := blk_frozen n0_.out 2
     refine skip_ (w1 := ?_) (by rfl) rfl ?_ ?_
     rotate_left
     ·go_simp
      rfl
     refine hK.out _ _ ?_
     clear hK K
     refine done_ (done_of HT_.out (by kernel_rfl)) ?_
     clear hs1 hfs1
     go_wp2
     go_ret
     exact ⟨rfl, _, FIN.out _ _ (heap_set n0_.out) (Kd.S_set n2_.out n0_.out (by decide) 2 _) (n4_.out.setCell (p := ⟨b, 2, none⟩) (.inl (.inl rfl)) _) (n3_.out.setCell (p := ⟨b, 2, none⟩) HBB.out _) n5_.out⟩
  ·rw [if_neg h0] at h
   have t0 : at_ < 0 := by omega
   clear h0
   have hS1 := HS1.out
   have hop1 := open_any g va (some ⟨R, 0, none⟩) cv w1 (by have := hS1.cells.2.2; rwa [hl1] at this ⊢) hS1.reads (by omega) (by omega) (Kd.R_reads' hS1.own).2.1
   have hrg := openL_rng va (by omega)
   clear hS1
   generalize openL va = v at h hop1 hrg
   by_cases h1 : v = 0
   ·rw [if_pos h1] at h
    cases h
    subst h1
    go_wp2_with (go_at_call 109; refine hop1.mono ?_; rintro e w2 ⟨rfl, hq⟩; have hq2 := hq.symm; clear hq hop1; subst hq2)
    go_ret
    exact ⟨rfl, _, BX.out, Kd.S_mono HS.out (fun _ hk => .inl hk), HK1.out, HW.out, .inl rfl⟩
   ·rw [if_neg h1] at h
    have h12 : (v == 0) = false := beq_eq_false_iff_ne.mpr h1
    by_cases hcl : ch.length ≤ 4096
    rotate_left
    ·rw [if_neg hcl] at h; cases h
    rw [if_pos hcl] at h
    obtain ⟨q, hq, h2⟩ := Option.bind_eq_some_iff.1 h
    have HQ := Aside0.mk hq
    have HQ2 := Aside0.mk h2
    have HCL := Aside0.mk hcl
    clear h hq h2 hcl
    have ew : IntKind.i64.wrap (-v) = -v := IntWalk.i64_in _ (by have := HN.out; omega)
    have HRG := Aside0.mk hrg
    have HV0 := Aside0.mk h1
    clear hrg h1
    go_upto_region 7 with (first
     | (go_at_call 109; refine hop1.mono ?_; rintro e w2 ⟨rfl, hq⟩; have hq2 := hq.symm; clear hq hop1; subst hq2)
     | ((with_reducible refine gate_dst (N := 31) rfl ?_); refine Kd.R_lit (Kd.int .i64) (w0 := w1) w1.heap.size 3 ?hg (N := 31) ?hd (xs := ([-v, v] : List Int)) (inner := [.int .i64 (-v), .int .i64 v]) (ok := fun k_ => w1.heap.size ≤ k_) (okp := fun _ => False) ?hr ?hp (fun _ hk => hk.elim) (Nat.le_refl _) (Below.refl _ _) (Nat.le_refl _) (by simp) ?_; (case hd => rfl); (case hg => rfl); (case hr => first | (go_simp; done) | (go_simp; rfl)); (case hp => exact Reps.one rfl (Reps.one rfl (Reps.none _ _))); intro v31 w3 ho hb hg_ hnew_; obtain ⟨q31, c31, e31, -, -, -⟩ := Kd.R_form ho (by simp); subst e31; have HL3 := Aside0.mk (Kd.R_mono (ok' := fun k_ => k_ ≠ R) (Kd.R_lower ho HW.out.size) (fun k_ hk_ => by have := HGR.out.2; have := HK1.out.1; omega)); have HB3 := Aside0.mk hb; clear ho hb hg_ hnew_))
    have HS13 := Aside0.mk (HS1.out.below HB3.out)
    have BX3 := Aside0.mk (blk_below BX.out HB3.out)
    have HS3 := Aside0.mk (Kd.S_mono (ok' := RK ok w) (Kd.S_below HS.out HB3.out) (fun _ hk => .inl hk))
    have HRC3 := Aside0.mk (Kd.R_below HRC.out HB3.out)
    have HK3 := Aside0.mk (HK1.out.below HB3.out)
    have HW3 := Aside0.mk (HW.out.trans (HB3.out.mono HW.out.size))
    clear HS1 BX HS HRC HK1 HW HB3
    go_wp2
    go_loopg [33] 2 (fun gg v33 wr => ∃ (i : Nat) (vi : Value) (sti : List S68), v33 = .int .i64 i ∧ i ≤ 2 ∧ 2 - i ≤ gg ∧ Aside0 (goIt (fun x st => goL cs K n (setL va x) (ch ++ [x]) st) ([-v, v].drop i) sti = some q) ∧ Aside0 (ST w0 wr g R a A cs.length c cv va) ∧ Aside0 (wr.heap[b]? = some (.cells #[.int .i64 a, .slice A cs.length c, vi] 95 (0, 0))) ∧ Aside0 (Kd.S k68 68 wr w0.heap.size (RK ok w) vi sti) ∧ Aside0 (Kd.R (Kd.int .i64) 3 wr w0.heap.size (fun k => k ≠ R) (.slice Ach ch.length cch) ch) ∧ Aside0 (Kd.R (Kd.int .i64) 3 wr w0.heap.size (fun k => k ≠ R) (.slice (some ⟨q31, 0, none⟩) [-v, v].length c31) [-v, v]) ∧ Aside0 (Kept w wr (RW b R vs)) ∧ Aside0 (Below w0.heap.size w0 wr) ∧ Aside0 (vi.ownBlock = vs.ownBlock ∨ ∃ k, vi.ownBlock = some k ∧ w.heap.size ≤ k))
    case atStart => exact ⟨0, _, _, rfl, Nat.zero_le _, by omega, HQ, HS13, BX3, HS3, HRC3, HL3, HK3, HW3, ⟨.inl rfl⟩⟩
    case round =>
     clear HQ HS13 BX3 HS3 HRC3 HL3 HK3 HW3
     obtain ⟨i, vi, sti, rfl, hi, hg, HQ, HS1, BX, HS, HRC, HL, HK, HW, HO⟩ := hrel
     by_cases hlt : i < 2
     ·have hll : i < [-v, v].length := hlt
      obtain ⟨hc0, -⟩ := Kd.R_celln 0 HL.out (i : Int) (by omega) (by exact_mod_cast hll)
      rw [Int.toNat_natCast] at hc0
      have hrd : rdOf 0 [-v, v] (i : Int) = [-v, v][i] := by unfold rdOf; simp only [Int.toNat_natCast]; rw [List.getD_eq_getElem?_getD, List.getElem?_eq_getElem hll]; rfl
      rw [hrd] at hc0
      have hqq := HQ.out
      rw [List.drop_eq_getElem_cons hll, goIt] at hqq
      have hxN : ([-v, v][i]).natAbs < N := by
       have hr := HRG.out
       match i, hlt with
       | 0, _ => show (-v).natAbs < N; omega
       | 1, _ => show v.natAbs < N; omega
      clear hrd HQ
      generalize [-v, v][i] = x at hc0 hqq hxN
      clear hll
      obtain ⟨⟨c2, st2⟩, hgo, hqq⟩ := Option.bind_eq_some_iff.1 hqq
      simp only at hqq
      have HQQ := Aside0.mk hqq
      have HGO := Aside0.mk hgo
      have HXN := Aside0.mk hxN
      clear hqq hgo
      have hcl1 := stclone_any g R a A cs.length c cv va w0 wr HS1.out (by omega) (by omega)
      have hltz : (i : Int) < 2 := by omega
      have h0z : (0 : Int) ≤ (i : Int) := by omega
      have ewi : IntKind.i64.wrap ((i : Int) + 1) = ((i + 1 : Nat) : Int) := IntWalk.i64_in _ (by omega)
      go_upto_region 10 with (go_at_call 110; refine hcl1.mono ?_; rintro e w4 ⟨g2, R2, cv2, rfl, hS2, hR2, hg2, hb4⟩; clear hcl1; have HS2 := Aside0.mk hS2; have HR2 := Aside0.mk (And.intro hg2 hR2); have HB4 := Aside0.mk hb4; clear hS2 hR2 hg2 hb4)
      clear hc0
      have hset := set_st g2 R2 a A cs.length c cv2 va x w0 w4 HS2.out (by omega) (by omega)
      go_upto_region 11 with (go_at_call 70; refine hset.mono ?_; rintro e w5 ⟨rfl, hq⟩; clear hset; have hS5 := HS2.out.set x; have hB5 := HB4.out.setCell (p := ⟨R2, x.natAbs, none⟩) HR2.out.2 (.int .i64 (if x < 0 then -1 else 1)); rw [← hq] at hS5 hB5; have HS5 := Aside0.mk hS5; have HB5 := Aside0.mk hB5; clear hS5 hB5 hq HB4 HS2)
      have HRC6 := fun W6 (hB : Below wr.heap.size wr W6) => Kd.R_below HRC.out hB
      go_upto_region 12 with (first
       | ((with_reducible refine gate_dst (N := 46) rfl ?_); refine Kd.R_lit (Kd.int .i64) (w0 := w5) w5.heap.size 3 ?hg (N := 46) ?hd (xs := ([x] : List Int)) (inner := [.int .i64 x]) (ok := fun k_ => w5.heap.size ≤ k_) (okp := fun _ => False) ?hr ?hp (fun _ hk => hk.elim) (Nat.le_refl _) (Below.refl _ _) (Nat.le_refl _) (by simp) ?_; (case hd => rfl); (case hg => rfl); (case hr => first | (go_simp; done) | (go_simp; rfl)); (case hp => exact Reps.one rfl (Reps.none _ _)); intro v46 w6 ho hb hg_ hnew_; obtain ⟨q46, c46, e46, -, -, -⟩ := Kd.R_form ho (by simp); subst e46; have HX6 := Aside0.mk ho; have HB6 := Aside0.mk hb; clear ho hb hg_ hnew_)
       | ((with_reducible refine gate_dst (N := 47) rfl ?_); refine Kd.N_lit (Kd.slice 3 (Kd.int .i64)) (w0 := w5) w5.heap.size 37 ?hg (N' := 47) ?hd (xs := ([ch, [x]] : List (List Int))) (inner := [.slice Ach ch.length cch, .slice (some ⟨q46, 0, none⟩) [x].length c46]) (ok := fun _ => True) (okp := fun k => k < w6.heap.size) ?hr ?hp (fun _ _ => trivial) trivial HB6.out HB6.out.size (by simp) ?_; (case hd => rfl); (case hg => rfl); (case hr => first | (go_simp; done) | (go_simp; rfl)); (case hp => have h9 := Kd.R_reads' (HRC6 w6 (HB5.out.trans (HB6.out.mono HB5.out.size))); have h8 := Kd.R_reads' HX6.out; exact Reps.one (foot_Ki h9.2.2 h9.2.1) (Reps.one (foot_Ki h8.2.2 h8.2.1) (Reps.none _ _))); intro v47 w7 ho hb hg_ hnew_; obtain ⟨A47, c47, e47, hc47, hC47⟩ := Kd.N_reads ho; subst e47; have HB7 := Aside0.mk hb; have hcon := concat_any A47 c47 [ch, [x]] w7 hC47 (by simp) (by have := HCL.out; simp; omega); clear ho hb hg_ hnew_ hC47 hc47)
       | (go_at_call 86; refine hcon.mono ?_; rintro e w8 ⟨v48, rfl, hR, hb⟩; clear hcon; rw [show ([ch, [x]] : List (List Int)).flatten = ch ++ [x] by simp] at hR; have HB58 := Aside0.mk (HB7.out.trans (hb.mono HB7.out.size)); have HB8 := Aside0.mk (HB5.out.trans (HB58.out.mono HB5.out.size)); have hgo := IH.out g2 R2 cv2 (setL va x) v48 (ch ++ [x]) vi sti (fun k => RK ok w k ∧ k < wr.heap.size) c2 st2 w8 (by rw [setL_length]; exact hl1) (fun y hy => by (rcases List.mem_append.1 hy with hy | hy); (exact HCH.out y hy); (rw [List.mem_singleton.1 hy]; exact HXN.out)) (HS5.out.below HB58.out) (blk_below BX.out HB8.out) (Kd.R_mono (Kd.R_lower (Kd.R_bound hR) (Nat.le_trans HW.out.size (Nat.le_trans HB5.out.size HB7.out.size))) (fun k hk e => by have h1 := HS5.out.blt; have h2 := hk.2.1; have := HB7.out.size; omega)) (Kd.S_mono (Kd.S_below (Kd.S_bound HS.out) HB8.out) (fun k hk => ⟨hk.1, hk.2.2.1⟩)) (fun k hk e => by have := HR2.out.2; have := hk.2; omega) HGO.out; have HSZ := Aside0.mk (Nat.le_trans HB7.out.size hb.size); clear hb hR)
       | (go_at_call 80; refine hgo.mono ?_; rintro e w9 ⟨rfl, vi2, bx9, hs9, hk9, hw9, ho9⟩; clear hgo; have BX9 := Aside0.mk bx9; have HS9 := Aside0.mk (Kd.S_mono (ok' := RK ok w) hs9 (fun k hk => hk.elim (fun h => h.1) (fun h => .inr (Nat.le_trans HK.out.1 (Nat.le_trans HB8.out.size h))))); have HW9 := Aside0.mk hw9; have HO9 := Aside0.mk ho9; have HK9 := Aside0.mk hk9; clear bx9 hs9 hk9 hw9 ho9))
      have HSZW := Aside0.mk (Nat.le_trans HK.out.1 HB8.out.size)
      have HNG : Aside0 (¬ RW b R2 vi g) := ⟨fun h => h.elim (fun e => by have h1 := HS1.out.blk; rw [e, BX.out] at h1; cases h1) (fun h => h.elim (fun e => by have := HS1.out.glt; have := HR2.out.2; omega) (fun e => stp_ty HS.out HS1.out.blk (by decide) e))⟩
      have HNR : Aside0 (¬ RW b R2 vi R) := ⟨fun h => h.elim (fun e => HBNR.out e.symm) (fun h => h.elim (fun e => by have := HS1.out.blt; have := HR2.out.2; omega) (fun e => stp_row HS.out HS1.out.own e rfl))⟩
      have HRW : Aside0 (∀ (vv : Value) (l : List Int), Kd.R (Kd.int .i64) 3 wr w0.heap.size (fun k => k ≠ R) vv l → Kd.R (Kd.int .i64) 3 w9 w0.heap.size (fun k => k ≠ R) vv l) := ⟨fun vv l hl => row_step (Kd.R_below hl HB8.out) HK9.out (fun k hk h => h.elim (fun e => own_ty hl BX.out (by decide) (e ▸ hk)) (fun h => h.elim (fun e => by have := Kd.R_lt hl k hk; have := HR2.out.2; omega) (fun e => stp_row HS.out hl e hk)))⟩
      have HS19 := Aside0.mk ((HS1.out.below HB8.out).kept HK9.out HW9.out HNG.out HNR.out)
      have HK9w := Aside0.mk (show Kept w w9 (RW b R vs) from (HK.out.below HB8.out).then_ HK9.out (fun k hk => hk.elim (fun h => .inl (.inl h)) (fun h => h.elim (fun h => .inr (by have := HR2.out.2; have := HK.out.1; omega)) (fun h => HO.out.elim (fun e => .inl (.inr (.inr (e ▸ h)))) (fun ⟨k2, e, h2⟩ => .inr (by rw [h] at e; cases e; exact h2))))))
      have HO9w : Aside0 (vi2.ownBlock = vs.ownBlock ∨ ∃ k, vi2.ownBlock = some k ∧ w.heap.size ≤ k) := ⟨HO9.out.elim (fun e => HO.out.imp (fun h => e.trans h) (fun ⟨k, h1, h2⟩ => ⟨k, e.trans h1, h2⟩)) (fun ⟨k, h1, h2⟩ => .inr ⟨k, h1, Nat.le_trans HSZW.out h2⟩)⟩
      have hqq := HQQ.out
      by_cases hc2 : c2 = 0
      ·rw [if_pos hc2] at hqq
       subst hc2
       have HQ9 := Aside0.mk hqq
       clear hqq HQQ
       go_wp2
       go_roundg (gk - 1)
       case measure => omega
       case rel => exact ⟨i + 1, vi2, st2, rfl, by omega, by omega, HQ9, HS19, BX9, HS9, ⟨HRW.out _ _ HRC.out⟩, ⟨HRW.out _ _ HL.out⟩, HK9w, HW9, HO9w⟩
      ·rw [if_neg hc2] at hqq
       cases hqq
       have hq2 := HQ2.out
       simp only at hq2
       rw [if_neg hc2] at hq2
       have t9 : (c2 == 0) = false := beq_eq_false_iff_ne.mpr hc2
       clear hc2
       cases hq2
       go_wp2
       go_ret
       exact ⟨rfl, _, BX9.out, HS9.out, HK9w.out, HW9.out, HO9w.out⟩
     ·obtain rfl : i = 2 := by omega
      have hqq := HQ.out
      rw [show [-v, v].drop 2 = [] from rfl, goIt] at hqq
      cases hqq
      have hq2 := HQ2.out
      rw [if_pos (show ((0, sti) : Int × List S68).1 = 0 from rfl)] at hq2
      have HLF := Aside0.mk hq2
      clear hq2 HQ HQ2 IH HV0 HRG HCL
      obtain ⟨okl, eok⟩ : ∃ o : Nat → Prop, o = RK ok w := ⟨_, rfl⟩
      have FIN : Aside0 (∀ W' vs', W'.heap[b]? = some (.cells #[.int .i64 a, .slice A cs.length c, vs'] 95 (0, 0)) → Kd.S k68 68 W' w0.heap.size (RK okl wr) vs' st' → Kept wr W' (fun k => k = b ∨ vi.ownBlock = some k) → Below w0.heap.size w0 W' → (vs'.ownBlock = vi.ownBlock ∨ ∃ k, vs'.ownBlock = some k ∧ wr.heap.size ≤ k) → (W'.heap[b]? = some (.cells #[.int .i64 a, .slice A cs.length c, vs'] 95 (0, 0)) ∧ Kd.S k68 68 W' w0.heap.size (RK ok w) vs' st' ∧ Kept w W' (RW b R vs) ∧ Below w0.heap.size w0 W' ∧ (vs'.ownBlock = vs.ownBlock ∨ ∃ k, vs'.ownBlock = some k ∧ w.heap.size ≤ k))) := ⟨fun W' vs' f1 f2 f3 f4 f5 => ⟨f1, Kd.S_mono f2 (fun k hk => hk.elim (fun h => eok ▸ h) (fun h => .inr (Nat.le_trans HK.out.1 h))), HK.out.then_ f3 (fun k hk => hk.elim (fun h => .inl (.inl h)) (fun h => HO.out.elim (fun e => .inl (.inr (.inr (e ▸ h)))) (fun ⟨k2, e, h2⟩ => .inr (by rw [h] at e; cases e; exact h2)))), f4, f5.elim (fun e => HO.out.imp (fun h => e.trans h) (fun ⟨k, h1, h2⟩ => ⟨k, e.trans h1, h2⟩)) (fun ⟨k, h1, h2⟩ => .inr ⟨k, h1, Nat.le_trans HK.out.1 h2⟩)⟩⟩
      rw [← eok] at HS
      have EOK := Aside0.mk eok
      have HKW := Aside0.mk HK.out.1
      clear eok HOK HK HO HL
      obtain ⟨wl, hwl⟩ : ∃ x, x = wr := ⟨_, rfl⟩
      subst hwl
      obtain ⟨Ast, cst, est⟩ := Kd.S_slice HS.out
      subst est
      have x2 := (blk_cell BX.out 2).trans (show _ = some (.slice Ast sti.length cst) from rfl)
      have hlf := HLF.out
      unfold leafG at hlf
      have hst9 : sti.length ≤ 200 := by
       by_cases h9 : sti.length ≤ 200
       ·exact h9
       ·rw [if_neg h9] at hlf; cases hlf
      rw [if_pos hst9] at hlf
      have HST := Aside0.mk hst9
      clear HLF hst9
      by_cases h200 : sti.length = 200
      ·rw [if_pos (.inl h200)] at hlf
       cases hlf
       have t1 : ((sti.length : Int) == 200) = true := by rw [h200]; rfl
       clear h200
       go_wp2
       go_ret
       exact ⟨rfl, _, FIN.out _ _ BX.out (Kd.S_mono HS.out (fun _ hk => .inl hk)) (Kept.refl _ _) HW.out (.inl rfl)⟩
      have t1 : ((sti.length : Int) == 200) = false := beq_eq_false_iff_ne.mpr (by omega)
      by_cases h12 : 12 < ch.length
      ·rw [if_pos (.inr h12)] at hlf
       cases hlf
       have t2 : (12 : Int) < (ch.length : Int) := by omega
       clear h12 h200
       go_wp2
       go_ret
       exact ⟨rfl, _, FIN.out _ _ BX.out (Kd.S_mono HS.out (fun _ hk => .inl hk)) (Kept.refl _ _) HW.out (.inl rfl)⟩
      rw [if_neg (fun h => h.elim h200 h12)] at hlf
      cases hlf
      have t2 : ¬ (12 : Int) < (ch.length : Int) := by omega
      have H12 := Aside0.mk h12
      have H200 := Aside0.mk h200
      clear h12 h200
      go_upto_region 17 with fail
      clear x2 t1 t2
      obtain ⟨t, ht⟩ : ∃ t, wl.heap.size = t := ⟨_, rfl⟩
      go_upto_region 18 with fail
      have hb2 : Below wl.heap.size wl (wl.alloc (.cells #[.bool false, .slice none 0 0] 68)) := below_alloc (Below.refl _ _) _
      have k1 : (wl.alloc (.cells #[.bool false, .slice none 0 0] 68)).heap[t]? = some (.cells #[.bool false, .slice none 0 0] 68 (0, 0)) := by rw [← ht]; exact blk_new wl _
      generalize wl.alloc (.cells #[.bool false, .slice none 0 0] 68) = w2 at hb2 k1 ⊢
      have HT := Aside0.mk ht
      have HB2 := Aside0.mk hb2
      have HK := Aside0.mk k1
      clear ht hb2 k1
      go_wp2
      go_loopg [67] ch.length (fun gg v67 wr => ∃ (i : Nat) (v : Value), v67 = .int .i64 i ∧ i ≤ ch.length ∧ ch.length - i ≤ gg ∧ Aside0 (wr.heap[t]? = some (.cells #[.bool false, v] 68 (0, 0))) ∧ Aside0 (Kd.R (Kd.int .i64) 3 wr wl.heap.size (fun _ => True) v ((ch.take i).map (fun x => -x))) ∧ Aside0 (Below wl.heap.size wl wr))
      case atStart => exact ⟨0, _, rfl, Nat.zero_le _, by omega, HK, ⟨Kd.R_nil _ _ _ _ _⟩, HB2⟩
      case round =>
       clear HK HB2
       obtain ⟨i, v, rfl, hi, hg, HK, HV, HB⟩ := hrel
       by_cases hlt : i < ch.length
       ·obtain ⟨q, cap, eq_, -, -, -⟩ := Kd.R_form HRC.out (by omega)
        cases eq_
        obtain ⟨hc0, -⟩ := Kd.R_celln 0 HRC.out (i : Int) (by omega) (by omega)
        rw [Int.toNat_natCast] at hc0
        have hrd : rdOf 0 ch (i : Int) = ch[i] := by unfold rdOf; simp [List.getD, hlt]
        rw [hrd] at hc0
        have hc1 := (HB.out.cell (World.block_lt_of_cell? wl _ hc0)).trans hc0
        have hci := HCH.out _ (List.getElem_mem hlt)
        have htk : (ch.take (i + 1)).map (fun x => -x) = (ch.take i).map (fun x => -x) ++ [-ch[i]] := by rw [List.take_succ_eq_append_getElem hlt, List.map_append]; rfl
        have HTK := Aside0.mk htk
        clear htk hrd hc0
        generalize ch[i] = x at hc1 hci HTK
        have ew : IntKind.i64.wrap ((i : Int) + 1) = ((i + 1 : Nat) : Int) := IntWalk.i64_in _ (by have := H12.out; omega)
        have ewx : IntKind.i64.wrap (-x) = -x := IntWalk.i64_in _ (by have := HN.out; omega)
        have hltz : (i : Int) < (ch.length : Int) := by omega
        have h0z : (0 : Int) ≤ (i : Int) := by omega
        have y0 := (blk_cell HK.out 0).trans (show _ = some (.bool false) from rfl)
        have y1 := (blk_cell HK.out 1).trans (show _ = some v from rfl)
        obtain ⟨Av, cv_, ev_⟩ := Kd.R_slice HV.out
        have hvl : ((ch.take i).map (fun x => -x)).length = i := by rw [List.length_map, List.length_take]; omega
        rw [hvl] at ev_
        subst ev_
        clear hci
        go_upto_region 22 with ((with_reducible refine gate_builtin (b := .append) (xs := #[.tmp 72, .tmp 75]) rfl ?_); at_builtin; refine Kd.R_append (Kd.int .i64) (w0 := wl) wl.heap.size rfl (.tmp 72) (.tmp 75) 37 3 (.int .i64 0) 8 rfl Try.underlying37 info3 rfl (by decide) (by omega) (.slice Av i cv_) ((ch.take i).map (fun x => -x)) (-x) [.int .i64 (-x)] (fun _ => True) (fun _ => False) rfl rfl ?aP (fun _ hk => hk.elim) ?aF ?aO ?aB ?aS ?aL ?_; (case aP => exact rfl); (case aF => exact fun _ _ => trivial); (case aO => exact HV.out); (case aB => exact HB.out); (case aS => exact HB.out.size); (case aL => rw [List.length_map, List.length_take]; have := H12.out; omega); intro v1 w1 ho hb hg2 hat; obtain ⟨A1, c1_, e1_⟩ := Kd.R_slice ho; rw [List.length_append, hvl] at e1_; subst e1_; have n0_ := Aside0.mk ho; have n1_ := Aside0.mk hb; have n2_ := Aside0.mk (blk_grown HK.out hg2 (Kd.R_ne HV.out HK.out (by decide))); clear HV HB HK y0 y1 hc1; have y1 := (blk_cell n2_.out 1).trans (show _ = some (.slice Av i cv_) from rfl); have z1 := blk_frozen n2_.out 1; clear ho hb hg2 hat)
        have hz := heap_set (j := 1) (u := .slice A1 (i + 1) c1_) n2_.out
        have m0_ := Aside0.mk (show (w1.setCell ⟨t, 1, none⟩ (.slice A1 (i + 1) c1_)).heap[t]? = some (.cells #[.bool false, .slice A1 (i + 1) c1_] 68 (0, 0)) from hz)
        have m1_ := Aside0.mk (Kd.R_set n0_.out n2_.out (by decide) 1 (.slice A1 (i + 1) c1_))
        have m2_ := Aside0.mk (n1_.out.setCell (p := ⟨t, 1, none⟩) (Nat.le_of_eq HT.out) (.slice A1 (i + 1) c1_))
        clear hz hvl n0_ n1_ n2_ y1 z1
        generalize w1.setCell ⟨t, 1, none⟩ (.slice A1 (i + 1) c1_) = w1s at m0_ m1_ m2_ ⊢
        go_wp2
        go_roundg (gk - 1)
        case measure => omega
        case rel => exact ⟨i + 1, _, rfl, by omega, by omega, m0_, ⟨by rw [HTK.out]; exact m1_.out⟩, m2_⟩
       ·obtain rfl : i = ch.length := by omega
        go_upto_region 23 with fail
        have hvv := HV.out
        rw [List.take_length] at hvv
        have HV2 := Aside0.mk hvv
        clear hvv HV hlt
        have BXr := Aside0.mk (blk_below BX.out HB.out)
        have HBW := Aside0.mk (HW.out.trans (HB.out.mono HW.out.size))
        have HSr := Aside0.mk (Kd.S_below (Kd.S_bound HS.out) HB.out)
        have HWS := Aside0.mk (show wl.heap.size ≤ wr.heap.size from HB.out.size)
        have hu_68 := Try.underlying68
        refine start_ (n := 11) (S := fun w' => w'.cell? ⟨b, 2, none⟩ = some (.slice Ast sti.length cst) ∧ w'.cell? ⟨t, 0, none⟩ = some (.bool false) ∧ w'.cell? ⟨t, 1, none⟩ = some v) (ds := [10]) #[false, false, false, false, false, false, false, false, false, false, false] (by kernel_rfl) rfl rfl ⟨(blk_cell BXr.out 2).trans rfl, (blk_cell HK.out 0).trans rfl, (blk_cell HK.out 1).trans rfl⟩ (fun hHeld => ?_)
        refine with_tabW goOn_tab goOn_bits (fun HT_ HW_ => ?_)
        have j0_ : Aside0 (wr.drew.heap[b]? = some (.cells #[.int .i64 a, .slice A cs.length c, .slice Ast sti.length cst] 95 (0, 0))) := ⟨BXr.out⟩
        have j1_ : Aside0 (wr.drew.heap[t]? = some (.cells #[.bool false, v] 68 (0, 0))) := ⟨HK.out⟩
        have j2_ := Aside0.mk (below_drew HB.out)
        have j3_ := Aside0.mk (below_drew HBW.out)
        have j4_ := Aside0.mk (Kd.S_drew HSr.out)
        have j5_ := Aside0.mk (Kd.R_drew HV2.out)
        have j6_ : Aside0 (wl.heap.size ≤ wr.drew.heap.size) := ⟨HWS.out⟩
        clear BXr HK HB HBW HSr HV2 HWS
        generalize wr.drew = w20 at j0_ j1_ j2_ j3_ j4_ j5_ j6_ hHeld ⊢
        refine pure_ (i := 0) (N := some 79) (v := ?_) (a' := ?_) #[true, false, false, false, false, false, false, false, false, false, false] rfl rfl (any_of HT_.out (by kernel_rfl)) (fun _ _ _ h => h) (Or.inl ⟨by rfl, ?_⟩) ?_ ?_
        rotate_left
        ·intro w'
         go_simp
         with_reducible rfl
        rotate_left
        ·simp only [Act.put, List.setIfInBounds_toArray, List.set_cons_zero, List.set_cons_succ, i64_w, i32_w]
         rfl
        refine pure_ (i := 1) (N := some 80) (v := ?_) (a' := ?_) #[true, true, false, false, false, false, false, false, false, false, false] rfl rfl (any_of HT_.out (by kernel_rfl)) (fun _ _ _ h => h) (Or.inl ⟨by rfl, ?_⟩) ?_ ?_
        rotate_left
        ·intro w'
         go_simp
         with_reducible rfl
        rotate_left
        ·simp only [Act.put, List.setIfInBounds_toArray, List.set_cons_zero, List.set_cons_succ, i64_w, i32_w]
         rfl
        refine pure_ (i := 2) (N := some 81) (v := ?_) (a' := ?_) #[true, true, true, false, false, false, false, false, false, false, false] rfl rfl (any_of HT_.out (by kernel_rfl)) (fun _ _ _ h => h) (Or.inl ⟨by rfl, ?_⟩) ?_ ?_
        rotate_left
        ·intro w'
         go_simp
         with_reducible rfl
        rotate_left
        ·simp only [Act.put, List.setIfInBounds_toArray, List.set_cons_zero, List.set_cons_succ, i64_w, i32_w]
         rfl
        refine pure_ (i := 3) (N := some 82) (v := ?_) (a' := ?_) #[true, true, true, true, false, false, false, false, false, false, false] rfl rfl (any_of HT_.out (by kernel_rfl)) (fun _ _ _ h => h) (Or.inl ⟨by rfl, ?_⟩) ?_ ?_
        rotate_left
        ·intro w'
         go_simp
         with_reducible rfl
        rotate_left
        ·simp only [Act.put, List.setIfInBounds_toArray, List.set_cons_zero, List.set_cons_succ, i64_w, i32_w]
         rfl
        refine take_ (i := 4) (N := some 83) (v := ?_) (a' := ?_) #[true, true, true, true, true, false, false, false, false, false, false] rfl rfl (take_ofW HT_.out HW_.out (by kernel_rfl)) (fun _ _ _ h => h) (Or.inl ⟨by rfl, ?_⟩) hHeld ?_ ?_
        rotate_left
        ·rintro w' ⟨s0, s1, s2⟩
         go_simp
         with_reducible rfl
        rotate_left
        ·simp only [Act.put, List.setIfInBounds_toArray, List.set_cons_zero, List.set_cons_succ, i64_w, i32_w]
         rfl
        refine take_ (i := 5) (N := some 84) (v := ?_) (a' := ?_) #[true, true, true, true, true, true, false, false, false, false, false] rfl rfl (take_ofW HT_.out HW_.out (by kernel_rfl)) (fun _ _ _ h => h) (Or.inl ⟨by rfl, ?_⟩) hHeld ?_ ?_
        rotate_left
        ·rintro w' ⟨s0, s1, s2⟩
         go_simp
         with_reducible rfl
        rotate_left
        ·simp only [Act.put, List.setIfInBounds_toArray, List.set_cons_zero, List.set_cons_succ, i64_w, i32_w]
         rfl
        refine one_ (i := 6) (N := some 85) #[true, true, true, true, true, true, true, false, false, false, false] rfl rfl (one_of HT_.out (by kernel_rfl)) (by decide) (fun K hK => ?_)
        refine value_ (w1 := ?_) (v := ?_) (by rfl) rfl ?_ ?_
        rotate_left 2
        ·go_simp
         constructor
         ·rfl
         ·rfl
        refine hK.out _ _ ⟨(blk_cell (blk_alloc j0_.out _) 2).trans rfl, (blk_cell (blk_alloc j1_.out _) 0).trans rfl, (blk_cell (blk_alloc j1_.out _) 1).trans rfl⟩ (fun hHeld => ?_)
        clear hK K
        refine norm_ (a' := ?_) ?_ ?_
        rotate_left
        ·show Act.put _ (some 85) _ = _
         simp only [Act.put, List.setIfInBounds_toArray, List.set_cons_zero, List.set_cons_succ, i64_w, i32_w]
         rfl
        refine one_ (i := 7) (N := some 86) #[true, true, true, true, true, true, true, true, false, false, false] rfl rfl (one_of HT_.out (by kernel_rfl)) (by decide) (fun K hK => ?_)
        refine Kd.S_append_step k68 (w0 := w0) w0.heap.size (by rfl) (.tmp 83) (.tmp 85) 32 68 (.agg #[.bool false, .slice none 0 0]) 32 rfl Try.underlying32 inf68 rfl (by decide) (by omega) (.slice Ast sti.length cst) sti (⟨false, ch.map (fun x => -x)⟩ : S68) [.bool false, v] (RK okl wl) (fun k => wl.heap.size ≤ k) rfl rfl ?aP ?aK ?aF ?aO ?aB ?aS ?aL ?_
        case aP => exact ⟨_, _, rfl, rfl, ⟨v, rfl, Kd.R_mono (Kd.R_lower (Kd.R_bound j5_.out) HW.out.size) (fun k hk => hk.2.1)⟩⟩
        case aK => exact fun k hk => ⟨.inr hk, fun e => by have := Kd.S_lt HS.out k e.symm; omega⟩
        case aF => exact fun k hk => .inr (Nat.le_trans j6_.out hk)
        case aO => exact Kd.S_mono j4_.out (fun k hk => ⟨.inl hk.1, by have := hk.2.2.1; omega⟩)
        case aB => exact j3_.out
        case aS => exact j3_.out.size
        case aL => have := HST.out; omega
        intro v1 w21 ho hb hg hat
        obtain ⟨A1, c1_, e1_⟩ := Kd.S_slice ho
        have hl9 : (sti ++ [(⟨false, ch.map (fun x => -x)⟩ : S68)]).length = sti.length + 1 := by simp
        rw [hl9] at e1_
        subst e1_
        have n0_ := Aside0.mk (blk_grown j0_.out hg (fun e => Kd.S_ne HS.out BX.out (by decide) e))
        have n1_ := Aside0.mk (blk_grown j1_.out hg (fun e => by have := Kd.S_lt HS.out t e.symm; have := HT.out; omega))
        have n2_ := Aside0.mk ho
        have n3_ := Aside0.mk hb
        have n4_ : Aside0 (Kept wl w21 (fun k => k = b ∨ (Value.slice Ast sti.length cst).ownBlock = some k)) := ⟨Kept.of_grown hg (Kept.of_below j2_.out _) (fun k hk => .inl (.inr hk))⟩
        have n5_ : Aside0 ((Value.slice A1 (sti.length + 1) c1_).ownBlock = (Value.slice Ast sti.length cst).ownBlock ∨ ∃ k, (Value.slice A1 (sti.length + 1) c1_).ownBlock = some k ∧ wl.heap.size ≤ k) := ⟨hat.imp id (fun ⟨k, h1, h2⟩ => ⟨k, h1, Nat.le_trans j6_.out h2⟩)⟩
        clear j0_ j1_ j2_ j3_ j4_ j5_ ho hb hg hat
        refine hK.out _ _ ⟨(blk_cell n0_.out 2).trans rfl, (blk_cell n1_.out 0).trans rfl, (blk_cell n1_.out 1).trans rfl⟩ (fun hHeld => ?_)
        clear hK K
        refine norm_ (a' := ?_) ?_ ?_
        rotate_left
        ·show Act.put _ (some 86) _ = _
         simp only [Act.put, List.setIfInBounds_toArray, List.set_cons_zero, List.set_cons_succ, i64_w, i32_w]
         rfl
        refine pure_ (i := 8) (N := some 87) (v := ?_) (a' := ?_) #[true, true, true, true, true, true, true, true, true, false, false] rfl rfl (any_of HT_.out (by kernel_rfl)) (fun _ _ _ h => h) (Or.inl ⟨by rfl, ?_⟩) ?_ ?_
        rotate_left
        ·intro w'
         go_simp
         with_reducible rfl
        rotate_left
        ·simp only [Act.put, List.setIfInBounds_toArray, List.set_cons_zero, List.set_cons_succ, i64_w, i32_w]
         rfl
        refine pure_ (i := 9) (N := some 88) (v := ?_) (a' := ?_) #[true, true, true, true, true, true, true, true, true, true, false] rfl rfl (any_of HT_.out (by kernel_rfl)) (fun _ _ _ h => h) (Or.inl ⟨by rfl, ?_⟩) ?_ ?_
        rotate_left
        ·intro w'
         go_simp
         with_reducible rfl
        rotate_left
        ·simp only [Act.put, List.setIfInBounds_toArray, List.set_cons_zero, List.set_cons_succ, i64_w, i32_w]
         rfl
        refine last_ (i := 10) (N := none) #[true, true, true, true, true, true, true, true, true, true, true] rfl rfl (one_of HT_.out (by kernel_rfl)) (by decide) (fun K hK => ?_)
        have hs1 : w21.cell? ⟨b, 2, none⟩ = some (.slice Ast sti.length cst) := (blk_cell n0_.out 2).trans rfl
        have hfs1 := blk_frozen n0_.out 2
        refine skip_ (w1 := ?_) (by rfl) rfl ?_ ?_
        rotate_left
        ·go_simp
         rfl
        refine hK.out _ _ ?_
        clear hK K
        refine done_ (done_of HT_.out (by kernel_rfl)) ?_
        clear hs1 hfs1
        go_wp2
        go_ret
        exact ⟨rfl, _, FIN.out _ _ (heap_set n0_.out) (Kd.S_set n2_.out n0_.out (by decide) 2 _) (n4_.out.setCell (p := ⟨b, 2, none⟩) (.inl (.inl rfl)) _) (n3_.out.setCell (p := ⟨b, 2, none⟩) HBB.out _) n5_.out⟩
end Go.Proofs.Ytelfahcjeldliaa.PFnExactRefutation
end
section
namespace Go.Proofs.Ytelfahcjeldliaa.PFnExactRefutation
open Go.RowKit Go.Proofs.YtelfahcjeldliaaW.PrintWords Go.Proofs.YtelfahcjeldliaaW.PrintLast Go.Proofs.YtelfahcjeldliaaW.PrintMore
attribute [local go_sem] max2_int min2_int max_two min_two max_three min_three max_four min_four   -- for this text's walks alone
set_option linter.unusedVariables false
set_option linter.unusedSimpArgs false
def leafS (ch : List Int) (st : List S68) : Option (Bool × Bool × List S68) := if st.length ≤ 200 then (if st.length = 200 ∨ 12 < ch.length then some (false, true, st) else some (true, false, st ++ [⟨false, ch.map (fun x => -x)⟩])) else none
def froF (K : Nat) (a : Int) (cs : List (List Int)) : Nat → List Int → List S68 → Option (Bool × Bool × List S68)
 | 0, _, _ => none
 | n + 1, ch, st => (spec_l02Run.f K cs (ch.foldl setL (List.replicate (a + 1).toNat 0))).bind fun t => if t.2.2.length = (a + 1).toNat then (if 0 ≤ t.2.1 then leafS ch st else if openL t.2.2 = 0 then some (false, false, st) else if ch.length ≤ 4000 then (froF K a cs n (ch ++ [-(openL t.2.2)]) st).bind fun p => if p.1 = true then (froF K a cs n (ch ++ [openL t.2.2]) p.2.2).bind fun q => if q.1 = true then leafS ch q.2.2 else some q else some p else none) else none
theorem foldl_len (ch : List Int) : ∀ z : List Int, (ch.foldl setL z).length = z.length := by
 induction ch with
 | nil => intro z; rfl
 | cons x r ih => intro z; rw [List.foldl_cons, ih, setL_length]
theorem setF_is {vals : List Int} {x : Int} (h0 : x ≠ 0) (h : x.natAbs < vals.length) (hn : vals.length ≤ 4096) : spec_l02Set.f vals x = some (setL vals x) := by
 unfold spec_l02Set.f setL
 by_cases hx : x > 0
 ·rw [if_pos hx, if_pos (by omega), if_pos (by omega), if_neg (by omega)]
 ·have hw : wrap64 (-x) = -x := IntWalk.wrap64_in _ (by omega)
  rw [if_neg hx, hw, if_pos (by omega), if_pos (by omega), if_pos (by omega)]
theorem froF_ok {K : Nat} {a : Int} {cs : List (List Int)} : ∀ {n : Nat} {ch : List Int} {st : List S68} {m : Bool} {st' : List S68}, froF K a cs n ch st = some (true, m, st') → m = false
 | 0, _, _, _, _, h => by simp [froF] at h
 | n + 1, ch, st, m, st', h => by
  have hleaf : ∀ s, leafS ch s = some (true, m, st') → m = false := fun s hs => by
   unfold leafS at hs
   split at hs
   ·split at hs
    ·cases hs
    ·cases hs; rfl
   ·cases hs
  rw [froF] at h
  obtain ⟨t, -, h⟩ := Option.bind_eq_some_iff.1 h
  split at h
  ·split at h
   ·exact hleaf _ h
   ·split at h
    ·cases h
    ·split at h
     ·obtain ⟨p, -, h⟩ := Option.bind_eq_some_iff.1 h
      split at h
      ·obtain ⟨q, -, h⟩ := Option.bind_eq_some_iff.1 h
       split at h
       ·exact hleaf _ h
       ·rename_i hq
        cases h
        exact absurd rfl hq
      ·rename_i hq
       cases h
       exact absurd rfl hq
     ·cases h
  ·cases h
set_option maxHeartbeats 8000000 in
set_option maxRecDepth 100000 in
theorem from_any (a : Int) (A0 : Option Addr) (c0 : Nat) (cs : List (List Int)) (w0 : World) (b : Nat) (hC : Kd.C (Kd.slice 3 (Kd.int .i64)) w0 A0 cs.length cs) (hc0 : cs.length ≤ c0) (ha : 0 ≤ a) (ha2 : a ≤ 4000) (hbb : w0.heap.size ≤ b) (K : Nat) :
  ∀ (n : Nat) (vch : Value) (ch : List Int) (vs : Value) (st : List S68) (ok : Nat → Prop) (r m : Bool) (st' : List S68) (w : World),
   (∀ x ∈ ch, x ≠ 0 ∧ x.natAbs < (a + 1).toNat) → ch.length ≤ 4096 → Below w0.heap.size w0 w → w.heap[b]? = some (.cells #[.int .i64 a, .slice A0 cs.length c0, vs, .bool false] 91 (0, 0)) → Kd.R (Kd.int .i64) 3 w w0.heap.size (fun _ => True) vch ch → Kd.S k68 68 w w0.heap.size ok vs st → froF K a cs n ch st = some (r, m, st') →
   Calls Try.prog 79 #[.pointer (some ⟨b, 0, none⟩), vch] w fun e W' => e = .returned (.bool r) ∧ ∃ vs', (W'.heap[b]? = some (.cells #[.int .i64 a, .slice A0 cs.length c0, vs', .bool m] 91 (0, 0)) ∧ Kd.S k68 68 W' w0.heap.size (RK ok w) vs' st' ∧ Kept w W' (fun k => k = b ∨ vs.ownBlock = some k) ∧ Below w0.heap.size w0 W' ∧ (vs'.ownBlock = vs.ownBlock ∨ ∃ k, vs'.ownBlock = some k ∧ w.heap.size ≤ k)) := by
 intro n
 induction n with
 | zero => intro vch ch vs st ok r m st' w _ _ _ _ _ _ h; simp [froF] at h
 | succ n ih =>
  intro vch ch vs st ok r m st' w hch hcl hw hbx hrc hst h
  rw [froF] at h
  obtain ⟨⟨li, at_, va⟩, hrun, h2⟩ := Option.bind_eq_some_iff.1 h
  clear h
  have h := h2
  clear h2
  simp only at h
  by_cases hvl : va.length = (a + 1).toNat
  rotate_left
  ·rw [if_neg hvl] at h; cases h
  rw [if_pos hvl] at h
  have HVA := Aside0.mk hvl
  have HBB := Aside0.mk hbb
  have HCH := Aside0.mk hch
  have HCL := Aside0.mk hcl
  have HA := Aside0.mk (show (a + 1).toNat ≤ 4096 by omega)
  have HA0 := Aside0.mk (And.intro ha ha2)
  have IH := Aside0.mk ih
  have BX := Aside0.mk hbx
  have HS := Aside0.mk hst
  have HRC := Aside0.mk (Kd.R_mono (ok' := fun k => k < w.heap.size) (Kd.R_bound hrc) (fun k hk => hk.2.2.1))
  have HW := Aside0.mk hw
  have HW00 := Aside0.mk hw.size
  have HRUN := Aside0.mk hrun
  have HC := Aside0.mk hC
  have HH := Aside0.mk h
  have hrc2 := hrc
  clear hvl ih hbx hst hrc hch hrun hw h
  obtain ⟨Ach, cch, ech⟩ := Kd.R_slice HRC.out
  subst ech
  have x0 := (blk_cell BX.out 0).trans (show _ = some (.int .i64 a) from rfl)
  have ew : IntKind.i64.wrap (a + 1) = a + 1 := IntWalk.i64_in _ (by omega)
  have ha1 : 0 ≤ a + 1 := by omega
  go_enter Try.func79, Try.ntmps79
  go_upto_region 2 with ((with_reducible refine gate_dst (N := 19) rfl ?_); refine Kd.R_make (Kd.int .i64) (w0 := w) w.heap.size 3 ?hg (N := 19) ?hd 37 (.tmp 18) (.tmp 18) rfl (a + 1) ?hx ?hy Try.underlying37 (.int .i64 0) 8 info3 rfl (by decide) (by decide) (0 : Int) (ok := fun k => w.heap.size ≤ k) (okp := fun _ => False) rfl (fun _ hk => hk.elim) (Nat.le_refl _) ha1 (by omega) (Below.refl _ _) (Nat.le_refl _) ?_; (case hd => rfl); (case hg => rfl); (case hx => first | rfl | (go_simp; done) | (go_simp; rfl)); (case hy => first | rfl | (go_simp; done) | (go_simp; rfl)); intro v5 w1 ho hb hg_ hnew_; obtain ⟨q5, c5, e5, -, -, -⟩ := Kd.R_form ho (by simp; omega); rw [List.length_replicate] at e5; subst e5; have HV := Aside0.mk ho; have HB := Aside0.mk hb; clear ho hb hg_ hnew_ x0)
  go_wp2
  go_loopg [6] ch.length (fun gg v6 wr => ∃ (i : Nat), v6 = .int .i64 i ∧ i ≤ ch.length ∧ ch.length - i ≤ gg ∧ Aside0 (Kd.R (Kd.int .i64) 3 wr w.heap.size (fun k => w.heap.size ≤ k) (.slice (some ⟨q5, 0, none⟩) (a + 1).toNat c5) ((ch.take i).foldl setL (List.replicate (a + 1).toNat 0))) ∧ Aside0 (Below w.heap.size w wr))
  case atStart => exact ⟨0, rfl, Nat.zero_le _, by omega, HV, HB⟩
  case round =>
   clear HV HB
   obtain ⟨i, rfl, hi, hg, HV, HB⟩ := hrel
   by_cases hlt : i < ch.length
   ·obtain ⟨q, cap, eq_, -, -, -⟩ := Kd.R_form HRC.out (by omega)
    cases eq_
    obtain ⟨hc0_, -⟩ := Kd.R_celln 0 HRC.out (i : Int) (by omega) (by omega)
    rw [Int.toNat_natCast] at hc0_
    have hrd : rdOf 0 ch (i : Int) = ch[i] := by unfold rdOf; simp [List.getD, hlt]
    rw [hrd] at hc0_
    have hc1 := (HB.out.cell (World.block_lt_of_cell? w _ hc0_)).trans hc0_
    have hci := HCH.out _ (List.getElem_mem hlt)
    have hset := spec_l02Set.calls (fun k => w.heap.size ≤ k) (.slice (some ⟨q5, 0, none⟩) (a + 1).toNat c5) ((ch.take i).foldl setL (List.replicate (a + 1).toNat 0)) ch[i] (setL ((ch.take i).foldl setL (List.replicate (a + 1).toNat 0)) ch[i]) w wr HB.out HV.out (setF_is hci.1 (by rw [foldl_len, List.length_replicate]; exact hci.2) (by rw [foldl_len, List.length_replicate]; exact HA.out))
    have htk : (ch.take (i + 1)).foldl setL (List.replicate (a + 1).toNat 0) = setL ((ch.take i).foldl setL (List.replicate (a + 1).toNat 0)) ch[i] := by rw [List.take_succ_eq_append_getElem hlt, List.foldl_append]; rfl
    rw [← htk] at hset
    clear htk hrd hc0_ hci
    generalize ch[i] = x at hc1 hset
    have ewi : IntKind.i64.wrap ((i : Int) + 1) = ((i + 1 : Nat) : Int) := IntWalk.i64_in _ (by have := HCL.out; omega)
    have hltz : (i : Int) < (ch.length : Int) := by omega
    have h0z : (0 : Int) ≤ (i : Int) := by omega
    go_wp2_with (go_at_call 65; refine hset.mono ?_; rintro e w2 ⟨rfl, hR2, hb2, -⟩; clear hset hc1; have HV2 := Aside0.mk (Kd.R_mono (ok' := fun k => w.heap.size ≤ k) hR2 (fun k hk => hk.elim id (fun h => Nat.le_trans HB.out.size h))); have HB2 := Aside0.mk hb2; clear hR2 hb2)
    go_roundg (gk - 1)
    case measure => omega
    case rel => exact ⟨i + 1, rfl, by omega, by omega, HV2, HB2⟩
   ·obtain rfl : i = ch.length := by omega
    have hvv := HV.out
    rw [List.take_length] at hvv
    have hrn := spec_l02Run.calls K A0 c0 cs (fun k => w.heap.size ≤ k) (.slice (some ⟨q5, 0, none⟩) (a + 1).toNat c5) (ch.foldl setL (List.replicate (a + 1).toNat 0)) li at_ va w wr HB.out (Kd.C_kept_came (Kd.heap_slice 3 (Kd.heap_int .i64)) HC.out (HW.out.trans (HB.out.mono HW.out.size)) (fun k hk => Nat.le_trans HW.out.size hk)) hc0 hvv HRUN.out
    have x1 := (HB.out.cell (World.block_lt_of_cell? w _ ((blk_cell BX.out 1).trans (show _ = some (.slice A0 cs.length c0) from rfl)))).trans ((blk_cell BX.out 1).trans (show _ = some (.slice A0 cs.length c0) from rfl))
    clear hvv HRUN
    go_upto_region 7 with (go_at_call 66; refine hrn.mono ?_; rintro e w2 ⟨vl, rfl, -, hR2, hb2, -⟩; clear hrn x1; have HV2 := Aside0.mk (Kd.R_mono (ok' := fun k => w.heap.size ≤ k) hR2 (fun k hk => hk.elim id (fun h => Nat.le_trans HB.out.size h))); have HB2 := Aside0.mk hb2; clear hR2 hb2)
    have h := HH.out
    by_cases h0 : 0 ≤ at_
    ·rw [if_pos h0] at h
     have HLF := Aside0.mk h
     have t0 : ¬ at_ < 0 := by omega
     clear h h0 IH HH HV HV2
     obtain ⟨okl, eok⟩ : ∃ o : Nat → Prop, o = ok := ⟨_, rfl⟩
     have FIN : Aside0 (∀ W' vs', W'.heap[b]? = some (.cells #[.int .i64 a, .slice A0 cs.length c0, vs', .bool m] 91 (0, 0)) → Kd.S k68 68 W' w0.heap.size (RK okl w2) vs' st' → Kept w2 W' (fun k => k = b ∨ vs.ownBlock = some k) → Below w0.heap.size w0 W' → (vs'.ownBlock = vs.ownBlock ∨ ∃ k, vs'.ownBlock = some k ∧ w2.heap.size ≤ k) → (W'.heap[b]? = some (.cells #[.int .i64 a, .slice A0 cs.length c0, vs', .bool m] 91 (0, 0)) ∧ Kd.S k68 68 W' w0.heap.size (RK ok w) vs' st' ∧ Kept w W' (fun k => k = b ∨ vs.ownBlock = some k) ∧ Below w0.heap.size w0 W' ∧ (vs'.ownBlock = vs.ownBlock ∨ ∃ k, vs'.ownBlock = some k ∧ w.heap.size ≤ k))) := ⟨fun W' vs' f1 f2 f3 f4 f5 => ⟨f1, Kd.S_mono f2 (fun k hk => hk.imp (fun h => eok ▸ h) (fun h => Nat.le_trans HB2.out.size h)), (Kept.of_below HB2.out _).then_ f3 (fun k hk => .inl hk), f4, f5.imp id (fun ⟨k, h1, h2⟩ => ⟨k, h1, Nat.le_trans HB2.out.size h2⟩)⟩⟩
     have hss := Kd.S_below HS.out HB2.out
     rw [← eok] at hss
     have HS := Aside0.mk hss
     have BX := Aside0.mk (blk_below BX.out HB2.out)
     have HRC := Aside0.mk (Kd.R_below HRC.out HB2.out)
     have HW := Aside0.mk (HW.out.trans (HB2.out.mono HW.out.size))
     have EOK := Aside0.mk eok
     clear eok hss HB HB2
     obtain ⟨Ast, cst, est⟩ := Kd.S_slice HS.out
     subst est
     have hlf := HLF.out
     unfold leafS at hlf
     have hst9 : st.length ≤ 200 := by
      by_cases h9 : st.length ≤ 200
      ·exact h9
      ·rw [if_neg h9] at hlf; cases hlf
     rw [if_pos hst9] at hlf
     have HLF2 := Aside0.mk hlf
     have HST := Aside0.mk hst9
     have HB0 := Aside0.mk (Below.refl w2.heap.size w2)
     clear HLF hst9 hlf
     go_upto_region 20 with ((with_reducible refine gate_dst (N := 87) rfl ?_); refine Kd.R_lit (Kd.int .i64) (w0 := w2) w2.heap.size 3 ?hg (N := 87) ?hd (xs := ([] : List Int)) (inner := []) (ok := fun _ => True) (okp := fun _ => False) ?hr ?hp (fun _ hk => hk.elim) trivial (Below.refl _ _) (Nat.le_refl _) (by simp) ?_; (case hd => rfl); (case hg => rfl); (case hr => first | (go_simp; done) | (go_simp; rfl)); (case hp => exact Reps.none _ _); intro v87 w87 ho hb hg_ hnew_; have HV := Aside0.mk ho; have HB := Aside0.mk hb; clear ho hb hg_ hnew_ HB0)
     go_wp2
     go_loopg [11, 12] ch.length (fun gg v11 v12 wr => ∃ (i : Nat), v12 = .int .i64 i ∧ i ≤ ch.length ∧ ch.length - i ≤ gg ∧ Aside0 (Kd.R (Kd.int .i64) 3 wr w2.heap.size (fun _ => True) v11 ((ch.take i).map (fun x => -x))) ∧ Aside0 (Below w2.heap.size w2 wr))
     case atStart => exact ⟨0, rfl, Nat.zero_le _, by omega, HV, HB⟩
     case round =>
      clear HV HB
      obtain ⟨i, rfl, hi, hg, HV, HB⟩ := hrel
      by_cases hlt : i < ch.length
      ·obtain ⟨q, cap, eq_, -, -, -⟩ := Kd.R_form HRC.out (by omega)
       cases eq_
       obtain ⟨hc0, -⟩ := Kd.R_celln 0 HRC.out (i : Int) (by omega) (by omega)
       rw [Int.toNat_natCast] at hc0
       have hrd : rdOf 0 ch (i : Int) = ch[i] := by unfold rdOf; simp [List.getD, hlt]
       rw [hrd] at hc0
       have hc1 := (HB.out.cell (World.block_lt_of_cell? w2 _ hc0)).trans hc0
       have hci := (HCH.out _ (List.getElem_mem hlt)).2
       have htk : (ch.take (i + 1)).map (fun x => -x) = (ch.take i).map (fun x => -x) ++ [-ch[i]] := by rw [List.take_succ_eq_append_getElem hlt, List.map_append]; rfl
       have HTK := Aside0.mk htk
       clear htk hrd hc0
       generalize ch[i] = x at hc1 hci HTK
       have ew : IntKind.i64.wrap ((i : Int) + 1) = ((i + 1 : Nat) : Int) := IntWalk.i64_in _ (by have := HCL.out; omega)
       have ewx : IntKind.i64.wrap (-x) = -x := IntWalk.i64_in _ (by have := HA.out; omega)
       have hltz : (i : Int) < (ch.length : Int) := by omega
       have h0z : (0 : Int) ≤ (i : Int) := by omega
       have hvl : ((ch.take i).map (fun x => -x)).length = i := by rw [List.length_map, List.length_take]; omega
       have HVL := Aside0.mk hvl
       clear hci hvl
       go_wp2_with ((with_reducible refine gate_builtin (b := .append) (xs := #[.tmp 94, .tmp 100]) rfl ?_); at_builtin; refine Kd.R_append (Kd.int .i64) (w0 := w2) w2.heap.size rfl (.tmp 94) (.tmp 100) 37 3 (.int .i64 0) 8 rfl Try.underlying37 info3 rfl (by decide) (by omega) u11 ((ch.take i).map (fun x => -x)) (-x) [.int .i64 (-x)] (fun _ => True) (fun _ => False) rfl rfl ?aP (fun _ hk => hk.elim) ?aF ?aO ?aB ?aS ?aL ?_; (case aP => exact rfl); (case aF => exact fun _ _ => trivial); (case aO => exact HV.out); (case aB => exact HB.out); (case aS => exact HB.out.size); (case aL => rw [HVL.out]; have := HCL.out; omega); intro v1 w1 ho hb hg2 hat; have n0_ := Aside0.mk ho; have n1_ := Aside0.mk hb; clear HV HB hc1 ho hb hg2 hat)
       go_roundg (gk - 1)
       case measure => omega
       case rel => exact ⟨i + 1, rfl, by omega, by omega, ⟨by rw [HTK.out]; exact n0_.out⟩, n1_⟩
      ·obtain rfl : i = ch.length := by omega
       have hvv := HV.out
       rw [List.take_length] at hvv
       obtain ⟨Ac, cc, ec⟩ := Kd.R_slice hvv
       rw [List.length_map] at ec
       subst ec
       have HV2 := Aside0.mk hvv
       clear hvv HV hlt
       have BXr := Aside0.mk (blk_below BX.out HB.out)
       have HWr := Aside0.mk (HW.out.trans (HB.out.mono HW.out.size))
       have HSr := Aside0.mk (Kd.S_below (Kd.S_bound HS.out) HB.out)
       have x2 := (blk_cell BXr.out 2).trans (show _ = some (.slice Ast st.length cst) from rfl)
       have x3 := (blk_cell BXr.out 3).trans (show _ = some (.bool false) from rfl)
       have z2 := blk_frozen BXr.out 2
       have z3 := blk_frozen BXr.out 3
       have hlf := HLF2.out
       have hMANY : (st.length = 200 ∨ 12 < ch.length) → Aside0 (m = true ∧ r = false ∧ st' = st) := fun h => ⟨by rw [if_pos h] at hlf; cases hlf; exact ⟨rfl, rfl, rfl⟩⟩
       by_cases h12 : 12 < ch.length
       ·obtain ⟨rfl, rfl, rfl⟩ := (hMANY (.inr h12)).out
        have t2 : (12 : Int) < (ch.length : Int) := by omega
        clear h12 hMANY hlf
        go_wp2
        go_ret
        exact ⟨rfl, _, FIN.out _ _ (heap_set BXr.out) (Kd.S_set (Kd.S_mono (ok' := RK okl w2) HSr.out (fun _ hk => .inl hk.1)) BXr.out (by decide) 3 _) (((Kept.of_below HB.out _).setCell (p := ⟨b, 3, none⟩) (.inl (.inl rfl)) _)) (HWr.out.setCell (p := ⟨b, 3, none⟩) HBB.out _) (.inl rfl)⟩
       have t2 : ¬ (12 : Int) < (ch.length : Int) := by omega
       by_cases h200 : st.length = 200
       ·have t1 : ((st.length : Int) == 200) = true := by rw [h200]; rfl
        obtain ⟨rfl, rfl, rfl⟩ := (hMANY (.inl h200)).out
        clear h12 hMANY hlf h200
        go_wp2
        go_ret
        exact ⟨rfl, _, FIN.out _ _ (heap_set BXr.out) (Kd.S_set (Kd.S_mono (ok' := RK okl w2) HSr.out (fun _ hk => .inl hk.1)) BXr.out (by decide) 3 _) (((Kept.of_below HB.out _).setCell (p := ⟨b, 3, none⟩) (.inl (.inl rfl)) _)) (HWr.out.setCell (p := ⟨b, 3, none⟩) HBB.out _) (.inl rfl)⟩
       have t1 : ((st.length : Int) == 200) = false := beq_eq_false_iff_ne.mpr (by omega)
       rw [if_neg (fun h => h.elim h200 h12)] at hlf
       cases hlf
       have H200 := Aside0.mk h200
       clear h12 h200 hMANY
       have HWS := Aside0.mk (show w2.heap.size ≤ wr.heap.size from HB.out.size)
       have hu_68 := Try.underlying68
       go_upto_region 28 with ((with_reducible refine gate_builtin (b := .append) (xs := #[.tmp 120, .tmp 123]) rfl ?_); at_builtin; refine Kd.S_append k68 (w0 := w0) w0.heap.size rfl (.tmp 120) (.tmp 123) 32 68 (.agg #[.bool false, .slice none 0 0]) 32 rfl Try.underlying32 inf68 rfl (by decide) (by omega) (.slice Ast st.length cst) st (⟨false, ch.map (fun x => -x)⟩ : S68) [.bool false, .slice Ac ch.length cc] (RK okl w2) (fun k => w2.heap.size ≤ k) rfl rfl ?aP ?aK ?aF ?aO ?aB ?aS ?aL ?_; (case aP => exact ⟨_, _, rfl, rfl, ⟨_, rfl, Kd.R_mono (Kd.R_lower (Kd.R_bound HV2.out) HW.out.size) (fun k hk => hk.2.1)⟩⟩); (case aK => exact fun k hk => ⟨.inr hk, fun e => by have := Kd.S_lt HS.out k e.symm; omega⟩); (case aF => exact fun k hk => .inr (Nat.le_trans HWS.out hk)); (case aO => exact Kd.S_mono HSr.out (fun k hk => ⟨.inl hk.1, by have := hk.2.2.1; omega⟩)); (case aB => exact HWr.out); (case aS => exact HWr.out.size); (case aL => have := HST.out; omega); intro v1 w21 ho hb hg hat; obtain ⟨A1, c1_, e1_⟩ := Kd.S_slice ho; rw [show (st ++ [(⟨false, ch.map (fun x => -x)⟩ : S68)]).length = st.length + 1 by simp] at e1_; subst e1_; have n0_ := Aside0.mk (blk_grown BXr.out hg (fun e => Kd.S_ne HS.out BX.out (by decide) e)); have n2_ := Aside0.mk ho; have n3_ := Aside0.mk hb; have n4_ := Aside0.mk (Kept.of_grown (S := fun k => k = b ∨ (Value.slice Ast st.length cst).ownBlock = some k) hg (Kept.of_below HB.out _) (fun k hk => .inl (.inr hk))); have n5_ : Aside0 ((Value.slice A1 (st.length + 1) c1_).ownBlock = (Value.slice Ast st.length cst).ownBlock ∨ ∃ k, (Value.slice A1 (st.length + 1) c1_).ownBlock = some k ∧ w2.heap.size ≤ k) := ⟨hat.imp id (fun ⟨k, h1, h2⟩ => ⟨k, h1, Nat.le_trans HWS.out h2⟩)⟩; clear x2 x3 z2 z3; have x2 := (blk_cell n0_.out 2).trans (show _ = some (.slice Ast st.length cst) from rfl); have z2 := blk_frozen n0_.out 2; clear ho hb hg hat)
       go_wp2
       go_ret
       exact ⟨rfl, _, FIN.out _ _ (heap_set n0_.out) (Kd.S_set n2_.out n0_.out (by decide) 2 _) (n4_.out.setCell (p := ⟨b, 2, none⟩) (.inl (.inl rfl)) _) (n3_.out.setCell (p := ⟨b, 2, none⟩) HBB.out _) n5_.out⟩
    ·rw [if_neg h0] at h
     have t0 : at_ < 0 := by omega
     have HH2 := Aside0.mk h
     have hvlen := HVA.out
     have hoe : openL va = idxL 0 (va.drop 1) 0 + 1 := rfl
     have HOE := Aside0.mk hoe
     clear h h0 hoe HH hvlen
     have BX := Aside0.mk (blk_below BX.out HB2.out)
     have HS := Aside0.mk (Kd.S_mono (ok' := fun k => ok k ∧ k < w.heap.size) (Kd.S_below (Kd.S_bound HS.out) HB2.out) (fun k hk => ⟨hk.1, hk.2.2.1⟩))
     have HRC := Aside0.mk (Kd.R_below HRC.out HB2.out)
     have HW := Aside0.mk (HW.out.trans (HB2.out.mono HW.out.size))
     have HBW := HB2
     clear HB HB2 HV
     go_wp2
     go_loopg [9] va.length (fun gg v9 wr => ∃ (j : Nat), v9 = .int .i64 ((j + 1 : Nat) : Int) ∧ j + 1 ≤ va.length ∧ va.length - j ≤ gg ∧ Aside0 (openL va = idxL 0 (va.drop (j + 1)) j + 1) ∧ wr = w2)
     case atStart => exact ⟨0, rfl, by have := HVA.out; have := HA0.out.1; omega, by omega, HOE, rfl⟩
     case round =>
      clear HOE
      obtain ⟨j, rfl, hj, hg, HOE, rfl⟩ := hrel
      have x0 := (blk_cell BX.out 0).trans (show _ = some (.int .i64 a) from rfl)
      have hval := HVA.out
      have ha0 := HA0.out
      by_cases hlt : j + 1 < va.length
      ·obtain ⟨hc0_, -⟩ := Kd.R_celln 0 HV2.out ((j + 1 : Nat) : Int) (by omega) (by omega)
       rw [Int.toNat_natCast] at hc0_
       have hrd : rdOf 0 va ((j + 1 : Nat) : Int) = va[j + 1] := by unfold rdOf; simp [List.getD, hlt]
       rw [hrd] at hc0_
       have hoe := HOE.out
       rw [List.drop_eq_getElem_cons hlt, idxL] at hoe
       have HOE2 := Aside0.mk hoe
       clear hrd hoe HOE
       generalize va[j + 1] = x at hc0_ HOE2
       have hja : ((j + 1 : Nat) : Int) ≤ a := by omega
       have h0z : (0 : Int) ≤ ((j + 1 : Nat) : Int) := by omega
       have hjz : ((j + 1 : Nat) : Int) < (((a + 1).toNat : Nat) : Int) := by omega
       by_cases hx : x = 0
       ·have hoe := HOE2.out
        rw [if_pos hx.symm] at hoe
        have HVE := Aside0.mk (show openL va = ((j + 1 : Nat) : Int) by rw [hoe]; omega)
        have txn : (x != 0) = false := by rw [hx]; rfl
        have tgt : ¬ ((j + 1 : Nat) : Int) > a := by omega
        clear hoe HOE2 hx
        have h := HH2.out
        rw [HVE.out, if_neg (by omega)] at h
        by_cases hcl2 : ch.length ≤ 4000
        rotate_left
        ·rw [if_neg hcl2] at h; cases h
        rw [if_pos hcl2] at h
        obtain ⟨⟨p1, p2, p3⟩, hp_, h3⟩ := Option.bind_eq_some_iff.1 h
        simp only at h3
        have HP := Aside0.mk hp_
        have HP3 := Aside0.mk h3
        have HC4 := Aside0.mk hcl2
        clear h hp_ h3 hcl2 HH2
        have HVN := Aside0.mk (show ((j + 1 : Nat) : Int) ≠ 0 ∧ (((j + 1 : Nat) : Int)).natAbs < (a + 1).toNat by omega)
        have hew : IntKind.i64.wrap (-((j + 1 : Nat) : Int)) = -((j + 1 : Nat) : Int) := IntWalk.i64_in _ (by omega)
        have hc0v : wr.cell? ⟨q5, ((j + 1 : Nat) : Int).toNat, none⟩ = some (.int .i64 x) := by rw [Int.toNat_natCast]; exact hc0_
        clear hc0_
        generalize ((j + 1 : Nat) : Int) = v at hc0v hja h0z hjz tgt HVE HP HP3 HVN hew ⊢
        go_upto_region 13 with fail
        clear hc0v txn tgt x0 hja hjz h0z
        have HCC := Aside0.mk (Kd.R_reads' HRC.out)
        go_upto_region 14 with (first
         | ((with_reducible refine gate_dst (N := 67) rfl ?_); refine Kd.R_lit (Kd.int .i64) (w0 := wr) wr.heap.size 3 ?hg (N := 67) ?hd (xs := ([] : List Int)) (inner := []) (ok := fun _ => True) (okp := fun _ => False) ?hr ?hp (fun _ hk => hk.elim) trivial (Below.refl _ _) (Nat.le_refl _) (by simp) ?_; (case hd => rfl); (case hg => rfl); (case hr => first | (go_simp; done) | (go_simp; rfl)); (case hp => exact Reps.none _ _); intro v67 w67 ho hb hg_ hnew_; have HM := Aside0.mk ho; have HMB := Aside0.mk hb; clear ho hb hg_ hnew_)
         | ((with_reducible refine gate_builtin (b := .append) (xs := #[.tmp 67, .tmp 68]) rfl ?_); at_builtin; refine Kd.R_append_rows (Kd.int .i64) (w0 := wr) wr.heap.size rfl (.tmp 67) (.tmp 68) 37 3 (.int .i64 0) 8 rfl Try.underlying37 info3 rfl (by decide) (by omega) v67 [] ch _ _ _ (fun _ => True) (fun _ => False) rfl rfl ?aO ?aR (fun _ _ h => h) (fun _ h => h.elim) ?aF ?aB ?aS ?aL ?_; (case aR => exact Kd.C_below HCC.out.2.2 HMB.out); (case aB => exact HMB.out); (case aF => exact (fun _ _ => trivial)); (case aO => exact HM.out); (case aS => exact HMB.out.size); (case aL => have := HC4.out; simp; omega); intro v69 w69 ho hb hg_ hat; have HM2 := Aside0.mk ho; have HMB2 := Aside0.mk hb; clear ho hb hg_ hat)
         | ((with_reducible refine gate_builtin (b := .append) (xs := #[.tmp 69, .tmp 72]) rfl ?_); at_builtin; refine Kd.R_append (Kd.int .i64) (w0 := wr) wr.heap.size rfl (.tmp 69) (.tmp 72) 37 3 (.int .i64 0) 8 rfl Try.underlying37 info3 rfl (by decide) (by omega) v69 ([] ++ ch) (-v) [.int .i64 (-v)] (fun _ => True) (fun _ => False) rfl rfl ?aP (fun _ hk => hk.elim) ?aF ?aO ?aB ?aS ?aL ?_; (case aP => exact rfl); (case aF => exact fun _ _ => trivial); (case aO => exact HM2.out); (case aB => exact HMB2.out); (case aS => exact HMB2.out.size); (case aL => have := HC4.out; simp; omega); intro v73 w4 ho hb hg2 hat; rw [List.nil_append] at ho; obtain ⟨q10, c10, e10, hq10, -, -⟩ := Kd.R_form ho (by simp); rw [show (ch ++ [-v]).length = ch.length + 1 by simp] at e10; subst e10; have HM4 := Aside0.mk ho; have HB4 := Aside0.mk hb; have HQ10 := Aside0.mk hq10; clear ho hb hg2 hat hq10))
        clear HM HMB HM2 HMB2 hew HCC
        have HSW := Aside0.mk (Nat.le_trans HBW.out.size HQ10.out)
        have HBW4 := Aside0.mk (HBW.out.trans (HB4.out.mono HBW.out.size))
        have BX4 := Aside0.mk (blk_below BX.out HB4.out)
        have HS4 := Aside0.mk (Kd.S_below HS.out HB4.out)
        have HRC4 := Aside0.mk (Kd.R_below HRC.out HB4.out)
        have HW4 := Aside0.mk (HW.out.trans (HB4.out.mono HW.out.size))
        have HM4 := Aside0.mk (Kd.R_lower HM4.out HW.out.size)
        have HQ4 := Aside0.mk (show q10 < w4.heap.size from Kd.R_lt HM4.out q10 rfl)
        have HNB := Aside0.mk (show b ≠ q10 from fun e => own_ty HM4.out BX4.out (by decide) (by rw [e]; rfl))
        clear BX HS HRC HB4 HBW HQ10 HV2
        have hgo1 := IH.out (.slice (some ⟨q10, 0, none⟩) (ch.length + 1) c10) (ch ++ [-v]) vs st (fun k => ok k ∧ k < w.heap.size) p1 p2 p3 w4 (fun y hy => by (rcases List.mem_append.1 hy with hy | hy); (exact HCH.out y hy); (rw [List.mem_singleton.1 hy]; have := HVN.out; omega)) (by have := HC4.out; simp; omega) HW4.out BX4.out HM4.out HS4.out HP.out
        have hp3 := HP3.out
        cases p1 with
        | false =>
         rw [if_neg (by decide)] at hp3
         cases hp3
         go_wp2_with (go_at_call 79; refine hgo1.mono ?_; rintro e w5 ⟨rfl, vs5, bx5, hs5, hk5, hb5, ho5⟩; clear hgo1; have BX5 := Aside0.mk bx5; have HS5 := Aside0.mk hs5; have HK5 := Aside0.mk hk5; have HB5 := Aside0.mk hb5; have HO5 := Aside0.mk ho5; clear bx5 hs5 hk5 hb5 ho5)
         go_ret
         exact ⟨rfl, _, BX5.out, Kd.S_mono HS5.out (fun k hk => hk.imp (fun h => h.1) (fun h => Nat.le_trans HBW4.out.size h)), (Kept.of_below HBW4.out _).then_ HK5.out (fun k hk => .inl hk), HB5.out, HO5.out.imp id (fun ⟨k, h1, h2⟩ => ⟨k, h1, Nat.le_trans HBW4.out.size h2⟩)⟩
        | true =>
         rw [if_pos rfl] at hp3
         obtain rfl := froF_ok HP.out
         obtain ⟨⟨q1, q2, q3⟩, hq_, h4⟩ := Option.bind_eq_some_iff.1 hp3
         simp only at h4
         have HQ := Aside0.mk hq_
         have H4 := Aside0.mk h4
         clear hp3 hq_ h4 HP3 HP
         go_upto_region 16 with (go_at_call 79; refine hgo1.mono ?_; rintro e w5 ⟨rfl, vs5, bx5, hs5, hk5, hb5, ho5⟩; clear hgo1; have BX5 := Aside0.mk bx5; have HS5 := Aside0.mk hs5; have HK5 := Aside0.mk hk5; have HB5 := Aside0.mk hb5; have HO5 := Aside0.mk ho5; clear bx5 hs5 hk5 hb5 ho5)
         have HNS : Aside0 (∀ (k : Nat), k < w.heap.size ∨ w4.heap.size ≤ k → k ≠ q10) := ⟨fun k hk e => by have := HSW.out; have := HQ4.out; omega⟩
         have HM5 := Aside0.mk (row_step HM4.out HK5.out (fun k hk h => h.elim (fun e => own_ty HM4.out BX4.out (by decide) (e ▸ hk)) (fun e => stp_row HS4.out HM4.out e hk)))
         have HRC5 := Aside0.mk (row_step HRC4.out HK5.out (fun k hk h => h.elim (fun e => own_ty HRC4.out BX4.out (by decide) (e ▸ hk)) (fun e => stp_row HS4.out HRC4.out e hk)))
         obtain ⟨hcm, hfm⟩ := Kd.R_celln 0 HM5.out (ch.length : Int) (by omega) (by omega)
         rw [Int.toNat_natCast] at hcm hfm
         have hlz : (ch.length : Int) < ((ch.length + 1 : Nat) : Int) := by omega
         have h0l : (0 : Int) ≤ (ch.length : Int) := by omega
         go_upto_region 17 with fail
         have HM6 := Aside0.mk (Kd.R_putg HM5.out (ch.length : Int) v).1
         rw [Int.toNat_natCast, show (ch ++ [-v]).set ch.length v = ch ++ [v] by rw [List.set_append_right _ _ (Nat.le_refl _), Nat.sub_self]; rfl] at HM6
         have BX6 := Aside0.mk ((Below.heap_setCell w5 ⟨q10, ch.length, none⟩ (.int .i64 v) b HNB.out).trans BX5.out)
         have HS6 := Aside0.mk (Kd.S_far (p := ⟨q10, ch.length, none⟩) HS5.out (fun k hk => HNS.out k (hk.imp (fun h => h.2) id)) (.int .i64 v))
         have HRC6 := Aside0.mk (Kd.R_far (p := ⟨q10, ch.length, none⟩) HRC5.out (fun k hk => HNS.out k (.inl hk)) (.int .i64 v))
         have HB6 := Aside0.mk (HB5.out.setCell (p := ⟨q10, ch.length, none⟩) (Nat.le_trans HW00.out HSW.out) (.int .i64 v))
         have HK6 := Aside0.mk (((Kept.of_below HBW4.out _).then_ HK5.out (fun k hk => .inl hk)).setCell (p := ⟨q10, ch.length, none⟩) (.inr HSW.out) (.int .i64 v))
         have HZ6 := Aside0.mk (show w4.heap.size ≤ (w5.setCell ⟨q10, ch.length, none⟩ (.int .i64 v)).heap.size from ((HK5.out.mono (S' := fun _ => True) (fun _ _ => trivial)).setCell (p := ⟨q10, ch.length, none⟩) (.inl trivial) (.int .i64 v)).1)
         clear hcm hfm hlz h0l HM5 BX5 HS5 HRC5 HB5 HK5 HM4 BX4 HS4 HRC4
         change Aside0 (Kd.R (Kd.int .i64) 3 (w5.setCell ⟨q10, ch.length, none⟩ (.int .i64 v)) w0.heap.size (fun _ => True) (.slice (some ⟨q10, 0, none⟩) (ch.length + 1) c10) (ch ++ [v])) at HM6
         generalize w5.setCell ⟨q10, ch.length, none⟩ (.int .i64 v) = w6 at HM6 BX6 HS6 HRC6 HB6 HK6 HZ6 ⊢
         have hgo2 := IH.out (.slice (some ⟨q10, 0, none⟩) (ch.length + 1) c10) (ch ++ [v]) vs5 p3 (RK (fun k => ok k ∧ k < w.heap.size) w4) q1 q2 q3 w6 (fun y hy => by (rcases List.mem_append.1 hy with hy | hy); (exact HCH.out y hy); (rw [List.mem_singleton.1 hy]; exact HVN.out)) (by have := HC4.out; simp; omega) HB6.out BX6.out HM6.out HS6.out HQ.out
         have h4 := H4.out
         cases q1 with
         | false =>
          rw [if_neg (by decide)] at h4
          cases h4
          go_wp2_with (go_at_call 79; refine hgo2.mono ?_; rintro e w7 ⟨rfl, vs7, bx7, hs7, hk7, hb7, ho7⟩; clear hgo2; have BX7 := Aside0.mk bx7; have HS7 := Aside0.mk (Kd.S_mono (ok' := RK ok w) hs7 (fun k hk => hk.elim (fun h => h.imp (fun h => h.1) (fun h => Nat.le_trans HBW4.out.size h)) (fun h => .inr (Nat.le_trans HBW4.out.size (Nat.le_trans HZ6.out h))))); have HK7 := Aside0.mk (show Kept w w7 (fun k => k = b ∨ vs.ownBlock = some k) from HK6.out.then_ hk7 (fun k hk => hk.elim (fun h => .inl (.inl h)) (fun h => HO5.out.elim (fun e => .inl (.inr (e ▸ h))) (fun ⟨k2, e, h2⟩ => .inr (by rw [h] at e; cases e; exact Nat.le_trans HBW4.out.size h2))))); have HB7 := Aside0.mk hb7; have HO7 : Aside0 (vs7.ownBlock = vs.ownBlock ∨ ∃ k, vs7.ownBlock = some k ∧ w.heap.size ≤ k) := ⟨ho7.elim (fun e => HO5.out.imp (fun h => e.trans h) (fun ⟨k, h1, h2⟩ => ⟨k, e.trans h1, Nat.le_trans HBW4.out.size h2⟩)) (fun ⟨k, h1, h2⟩ => .inr ⟨k, h1, Nat.le_trans HBW4.out.size (Nat.le_trans HZ6.out h2)⟩)⟩; have HRC7 := Aside0.mk (row_step HRC6.out hk7 (fun k hk h => h.elim (fun e => own_ty HRC6.out BX6.out (by decide) (e ▸ hk)) (fun e => stp_row HS6.out HRC6.out e hk))); clear bx7 hs7 hk7 hb7 ho7)
          go_ret
          exact ⟨rfl, _, BX7.out, HS7.out, HK7.out, HB7.out, HO7.out⟩
         | true =>
          rw [if_pos rfl] at h4
          obtain rfl := froF_ok HQ.out
          have HLF := Aside0.mk h4
          clear h4 H4 HQ
          go_upto_region 19 with (go_at_call 79; refine hgo2.mono ?_; rintro e w7 ⟨rfl, vs7, bx7, hs7, hk7, hb7, ho7⟩; clear hgo2; have BX7 := Aside0.mk bx7; have HS7 := Aside0.mk (Kd.S_mono (ok' := RK ok w) hs7 (fun k hk => hk.elim (fun h => h.imp (fun h => h.1) (fun h => Nat.le_trans HBW4.out.size h)) (fun h => .inr (Nat.le_trans HBW4.out.size (Nat.le_trans HZ6.out h))))); have HK7 := Aside0.mk (show Kept w w7 (fun k => k = b ∨ vs.ownBlock = some k) from HK6.out.then_ hk7 (fun k hk => hk.elim (fun h => .inl (.inl h)) (fun h => HO5.out.elim (fun e => .inl (.inr (e ▸ h))) (fun ⟨k2, e, h2⟩ => .inr (by rw [h] at e; cases e; exact Nat.le_trans HBW4.out.size h2))))); have HB7 := Aside0.mk hb7; have HO7 : Aside0 (vs7.ownBlock = vs.ownBlock ∨ ∃ k, vs7.ownBlock = some k ∧ w.heap.size ≤ k) := ⟨ho7.elim (fun e => HO5.out.imp (fun h => e.trans h) (fun ⟨k, h1, h2⟩ => ⟨k, e.trans h1, Nat.le_trans HBW4.out.size h2⟩)) (fun ⟨k, h1, h2⟩ => .inr ⟨k, h1, Nat.le_trans HBW4.out.size (Nat.le_trans HZ6.out h2)⟩)⟩; have HRC7 := Aside0.mk (row_step HRC6.out hk7 (fun k hk h => h.elim (fun e => own_ty HRC6.out BX6.out (by decide) (e ▸ hk)) (fun e => stp_row HS6.out HRC6.out e hk))); clear bx7 hs7 hk7 hb7 ho7)
          obtain ⟨okl, eok⟩ : ∃ o : Nat → Prop, o = RK ok w := ⟨_, rfl⟩
          have FIN : Aside0 (∀ W' vs', W'.heap[b]? = some (.cells #[.int .i64 a, .slice A0 cs.length c0, vs', .bool m] 91 (0, 0)) → Kd.S k68 68 W' w0.heap.size (RK okl w7) vs' st' → Kept w7 W' (fun k => k = b ∨ vs7.ownBlock = some k) → Below w0.heap.size w0 W' → (vs'.ownBlock = vs7.ownBlock ∨ ∃ k, vs'.ownBlock = some k ∧ w7.heap.size ≤ k) → (W'.heap[b]? = some (.cells #[.int .i64 a, .slice A0 cs.length c0, vs', .bool m] 91 (0, 0)) ∧ Kd.S k68 68 W' w0.heap.size (RK ok w) vs' st' ∧ Kept w W' (fun k => k = b ∨ vs.ownBlock = some k) ∧ Below w0.heap.size w0 W' ∧ (vs'.ownBlock = vs.ownBlock ∨ ∃ k, vs'.ownBlock = some k ∧ w.heap.size ≤ k))) := ⟨fun W' vs' f1 f2 f3 f4 f5 => ⟨f1, Kd.S_mono f2 (fun k hk => hk.elim (fun h => eok ▸ h) (fun h => .inr (Nat.le_trans HK7.out.1 h))), HK7.out.then_ f3 (fun k hk => hk.elim (fun h => .inl (.inl h)) (fun h => HO7.out.elim (fun e => .inl (.inr (e ▸ h))) (fun ⟨k2, e, h2⟩ => .inr (by rw [h] at e; cases e; exact h2)))), f4, f5.elim (fun e => HO7.out.imp (fun h => e.trans h) (fun ⟨k, h1, h2⟩ => ⟨k, e.trans h1, h2⟩)) (fun ⟨k, h1, h2⟩ => .inr ⟨k, h1, Nat.le_trans HK7.out.1 h2⟩)⟩⟩
          rw [← eok] at HS7
          have EOK := Aside0.mk eok
          have HS := HS7
          have BX := BX7
          have HRC := HRC7
          have HW := HB7
          clear eok HS7 BX7 HRC7 HB7 IH HK7 HO7 HBW4 HO5
          obtain ⟨Ast, cst, est⟩ := Kd.S_slice HS.out
          subst est
          have hlf := HLF.out
          unfold leafS at hlf
          have hst9 : q3.length ≤ 200 := by
           by_cases h9 : q3.length ≤ 200
           ·exact h9
           ·rw [if_neg h9] at hlf; cases hlf
          rw [if_pos hst9] at hlf
          have HLF2 := Aside0.mk hlf
          have HST := Aside0.mk hst9
          have HB0 := Aside0.mk (Below.refl w7.heap.size w7)
          clear HLF hst9 hlf
          go_upto_region 20 with ((with_reducible refine gate_dst (N := 87) rfl ?_); refine Kd.R_lit (Kd.int .i64) (w0 := w7) w7.heap.size 3 ?hg (N := 87) ?hd (xs := ([] : List Int)) (inner := []) (ok := fun _ => True) (okp := fun _ => False) ?hr ?hp (fun _ hk => hk.elim) trivial (Below.refl _ _) (Nat.le_refl _) (by simp) ?_; (case hd => rfl); (case hg => rfl); (case hr => first | (go_simp; done) | (go_simp; rfl)); (case hp => exact Reps.none _ _); intro v87 w87 ho hb hg_ hnew_; have HV := Aside0.mk ho; have HB := Aside0.mk hb; clear ho hb hg_ hnew_ HB0)
          go_wp2
          go_loopg [11, 12] ch.length (fun gg v11 v12 wr => ∃ (i : Nat), v12 = .int .i64 i ∧ i ≤ ch.length ∧ ch.length - i ≤ gg ∧ Aside0 (Kd.R (Kd.int .i64) 3 wr w7.heap.size (fun _ => True) v11 ((ch.take i).map (fun x => -x))) ∧ Aside0 (Below w7.heap.size w7 wr))
          case atStart => exact ⟨0, rfl, Nat.zero_le _, by omega, HV, HB⟩
          case round =>
           clear HV HB
           obtain ⟨i, rfl, hi, hg, HV, HB⟩ := hrel
           by_cases hlt : i < ch.length
           ·obtain ⟨q, cap, eq_, -, -, -⟩ := Kd.R_form HRC.out (by omega)
            cases eq_
            obtain ⟨hc0, -⟩ := Kd.R_celln 0 HRC.out (i : Int) (by omega) (by omega)
            rw [Int.toNat_natCast] at hc0
            have hrd : rdOf 0 ch (i : Int) = ch[i] := by unfold rdOf; simp [List.getD, hlt]
            rw [hrd] at hc0
            have hc1 := (HB.out.cell (World.block_lt_of_cell? w7 _ hc0)).trans hc0
            have hci := (HCH.out _ (List.getElem_mem hlt)).2
            have htk : (ch.take (i + 1)).map (fun x => -x) = (ch.take i).map (fun x => -x) ++ [-ch[i]] := by rw [List.take_succ_eq_append_getElem hlt, List.map_append]; rfl
            have HTK := Aside0.mk htk
            clear htk hrd hc0
            generalize ch[i] = x at hc1 hci HTK
            have ew : IntKind.i64.wrap ((i : Int) + 1) = ((i + 1 : Nat) : Int) := IntWalk.i64_in _ (by have := HCL.out; omega)
            have ewx : IntKind.i64.wrap (-x) = -x := IntWalk.i64_in _ (by have := HA.out; omega)
            have hltz : (i : Int) < (ch.length : Int) := by omega
            have h0z : (0 : Int) ≤ (i : Int) := by omega
            have hvl : ((ch.take i).map (fun x => -x)).length = i := by rw [List.length_map, List.length_take]; omega
            have HVL := Aside0.mk hvl
            clear hci hvl
            go_wp2_with ((with_reducible refine gate_builtin (b := .append) (xs := #[.tmp 94, .tmp 100]) rfl ?_); at_builtin; refine Kd.R_append (Kd.int .i64) (w0 := w7) w7.heap.size rfl (.tmp 94) (.tmp 100) 37 3 (.int .i64 0) 8 rfl Try.underlying37 info3 rfl (by decide) (by omega) u11 ((ch.take i).map (fun x => -x)) (-x) [.int .i64 (-x)] (fun _ => True) (fun _ => False) rfl rfl ?aP (fun _ hk => hk.elim) ?aF ?aO ?aB ?aS ?aL ?_; (case aP => exact rfl); (case aF => exact fun _ _ => trivial); (case aO => exact HV.out); (case aB => exact HB.out); (case aS => exact HB.out.size); (case aL => rw [HVL.out]; have := HCL.out; omega); intro v1 w1 ho hb hg2 hat; have n0_ := Aside0.mk ho; have n1_ := Aside0.mk hb; clear HV HB hc1 ho hb hg2 hat)
            go_roundg (gk - 1)
            case measure => omega
            case rel => exact ⟨i + 1, rfl, by omega, by omega, ⟨by rw [HTK.out]; exact n0_.out⟩, n1_⟩
           ·obtain rfl : i = ch.length := by omega
            have hvv := HV.out
            rw [List.take_length] at hvv
            obtain ⟨Ac, cc, ec⟩ := Kd.R_slice hvv
            rw [List.length_map] at ec
            subst ec
            have HV2 := Aside0.mk hvv
            clear hvv HV hlt
            have BXr := Aside0.mk (blk_below BX.out HB.out)
            have HWr := Aside0.mk (HW.out.trans (HB.out.mono HW.out.size))
            have HSr := Aside0.mk (Kd.S_below (Kd.S_bound HS.out) HB.out)
            have x2 := (blk_cell BXr.out 2).trans (show _ = some (.slice Ast q3.length cst) from rfl)
            have x3 := (blk_cell BXr.out 3).trans (show _ = some (.bool false) from rfl)
            have z2 := blk_frozen BXr.out 2
            have z3 := blk_frozen BXr.out 3
            have hlf := HLF2.out
            have hMANY : (q3.length = 200 ∨ 12 < ch.length) → Aside0 (m = true ∧ r = false ∧ st' = q3) := fun h => ⟨by rw [if_pos h] at hlf; cases hlf; exact ⟨rfl, rfl, rfl⟩⟩
            by_cases h12 : 12 < ch.length
            ·obtain ⟨rfl, rfl, rfl⟩ := (hMANY (.inr h12)).out
             have t2 : (12 : Int) < (ch.length : Int) := by omega
             clear h12 hMANY hlf
             go_wp2
             go_ret
             exact ⟨rfl, _, FIN.out _ _ (heap_set BXr.out) (Kd.S_set (Kd.S_mono (ok' := RK okl w7) HSr.out (fun _ hk => .inl hk.1)) BXr.out (by decide) 3 _) (((Kept.of_below HB.out _).setCell (p := ⟨b, 3, none⟩) (.inl (.inl rfl)) _)) (HWr.out.setCell (p := ⟨b, 3, none⟩) HBB.out _) (.inl rfl)⟩
            have t2 : ¬ (12 : Int) < (ch.length : Int) := by omega
            by_cases h200 : q3.length = 200
            ·have t1 : ((q3.length : Int) == 200) = true := by rw [h200]; rfl
             obtain ⟨rfl, rfl, rfl⟩ := (hMANY (.inl h200)).out
             clear h12 hMANY hlf h200
             go_wp2
             go_ret
             exact ⟨rfl, _, FIN.out _ _ (heap_set BXr.out) (Kd.S_set (Kd.S_mono (ok' := RK okl w7) HSr.out (fun _ hk => .inl hk.1)) BXr.out (by decide) 3 _) (((Kept.of_below HB.out _).setCell (p := ⟨b, 3, none⟩) (.inl (.inl rfl)) _)) (HWr.out.setCell (p := ⟨b, 3, none⟩) HBB.out _) (.inl rfl)⟩
            have t1 : ((q3.length : Int) == 200) = false := beq_eq_false_iff_ne.mpr (by omega)
            rw [if_neg (fun h => h.elim h200 h12)] at hlf
            cases hlf
            have H200 := Aside0.mk h200
            clear h12 h200 hMANY
            have HWS := Aside0.mk (show w7.heap.size ≤ wr.heap.size from HB.out.size)
            have hu_68 := Try.underlying68
            go_upto_region 28 with ((with_reducible refine gate_builtin (b := .append) (xs := #[.tmp 120, .tmp 123]) rfl ?_); at_builtin; refine Kd.S_append k68 (w0 := w0) w0.heap.size rfl (.tmp 120) (.tmp 123) 32 68 (.agg #[.bool false, .slice none 0 0]) 32 rfl Try.underlying32 inf68 rfl (by decide) (by omega) (.slice Ast q3.length cst) q3 (⟨false, ch.map (fun x => -x)⟩ : S68) [.bool false, .slice Ac ch.length cc] (RK okl w7) (fun k => w7.heap.size ≤ k) rfl rfl ?aP ?aK ?aF ?aO ?aB ?aS ?aL ?_; (case aP => exact ⟨_, _, rfl, rfl, ⟨_, rfl, Kd.R_mono (Kd.R_lower (Kd.R_bound HV2.out) HW.out.size) (fun k hk => hk.2.1)⟩⟩); (case aK => exact fun k hk => ⟨.inr hk, fun e => by have := Kd.S_lt HS.out k e.symm; omega⟩); (case aF => exact fun k hk => .inr (Nat.le_trans HWS.out hk)); (case aO => exact Kd.S_mono HSr.out (fun k hk => ⟨.inl hk.1, by have := hk.2.2.1; omega⟩)); (case aB => exact HWr.out); (case aS => exact HWr.out.size); (case aL => have := HST.out; omega); intro v1 w21 ho hb hg hat; obtain ⟨A1, c1_, e1_⟩ := Kd.S_slice ho; rw [show (q3 ++ [(⟨false, ch.map (fun x => -x)⟩ : S68)]).length = q3.length + 1 by simp] at e1_; subst e1_; have n0_ := Aside0.mk (blk_grown BXr.out hg (fun e => Kd.S_ne HS.out BX.out (by decide) e)); have n2_ := Aside0.mk ho; have n3_ := Aside0.mk hb; have n4_ := Aside0.mk (Kept.of_grown (S := fun k => k = b ∨ (Value.slice Ast q3.length cst).ownBlock = some k) hg (Kept.of_below HB.out _) (fun k hk => .inl (.inr hk))); have n5_ : Aside0 ((Value.slice A1 (q3.length + 1) c1_).ownBlock = (Value.slice Ast q3.length cst).ownBlock ∨ ∃ k, (Value.slice A1 (q3.length + 1) c1_).ownBlock = some k ∧ w7.heap.size ≤ k) := ⟨hat.imp id (fun ⟨k, h1, h2⟩ => ⟨k, h1, Nat.le_trans HWS.out h2⟩)⟩; clear x2 x3 z2 z3; have x2 := (blk_cell n0_.out 2).trans (show _ = some (.slice Ast q3.length cst) from rfl); have z2 := blk_frozen n0_.out 2; clear ho hb hg hat)
            go_wp2
            go_ret
            exact ⟨rfl, _, FIN.out _ _ (heap_set n0_.out) (Kd.S_set n2_.out n0_.out (by decide) 2 _) (n4_.out.setCell (p := ⟨b, 2, none⟩) (.inl (.inl rfl)) _) (n3_.out.setCell (p := ⟨b, 2, none⟩) HBB.out _) n5_.out⟩
       ·have txn : (x != 0) = true := by rw [bne_iff_ne]; exact hx
        have hoe := HOE2.out
        rw [if_neg (fun e => hx e.symm)] at hoe
        have HOE := Aside0.mk hoe
        have ew9 : IntKind.i64.wrap (((j + 1 : Nat) : Int) + 1) = ((j + 1 + 1 : Nat) : Int) := IntWalk.i64_in _ (by omega)
        clear hoe HOE2 hx
        go_wp2
        go_roundg (gk - 1)
        case measure => omega
        case rel => exact ⟨j + 1, rfl, by omega, by omega, HOE, rfl⟩
      ·have hoe := HOE.out
       rw [List.drop_of_length_le (by omega), idxL] at hoe
       have h := HH2.out
       rw [hoe, if_pos (by decide)] at h
       cases h
       have hja : ¬ ((j + 1 : Nat) : Int) ≤ a := by omega
       have hja2 : ((j + 1 : Nat) : Int) > a := by omega
       clear hoe
       go_wp2
       go_ret
       exact ⟨rfl, _, BX.out, Kd.S_mono HS.out (fun _ hk => .inl hk.1), Kept.of_below HBW.out _, HW.out, .inl rfl⟩
def spec_Refutation.f (k : Nat) (a : Int) (l : List (List Int)) : Option (List S68 × Int) :=
 (spec_CnfOK.f k a l).bind fun b => if b = true then (if 0 ≤ a ∧ a ≤ 4000 then (froF k a l 43 [] []).bind fun p => if p.1 = true then some (p.2.2, 0) else if p.2.1 = true then some ([], 7) else some ([], 6) else none) else some ([], 1)
set_option maxHeartbeats 4000000 in
set_option maxRecDepth 100000 in
theorem spec_Refutation.calls (k : Nat) (a : Int) (A0 : Option Addr) (c0 : Nat) (l : List (List Int)) (r1 : List S68) (r2 : Int) (w : World) (hr0 : Kd.C (Kd.slice 3 (Kd.int .i64)) w A0 l.length l) (hc0 : l.length ≤ c0) (h : spec_Refutation.f k a l = some (r1, r2)) :
  Calls Try.prog 38 #[.agg #[.int .i64 a, .slice A0 l.length c0]] w fun e w' => ∃ v, e = .returned (.tuple #[v, .int .i64 r2]) ∧ Kd.S k68 68 w' w.heap.size (fun _ => True) v r1 ∧ Below w.heap.size w w' := by
 have hu30 := Try.underlying30
 have hu91 := Try.underlying91
 unfold spec_Refutation.f at h
 have HR := Aside0.mk hr0
 have HC := Aside0.mk hc0
 obtain ⟨bc, hbc, h⟩ := Option.bind_eq_some_iff.1 h
 have hcnf := fun W (hW : Below w.heap.size w W) => spec_CnfOK.calls k a A0 c0 l bc W (Kd.C_below hr0 hW) hc0 hbc
 clear hr0 hc0 hbc
 obtain ⟨g, hg⟩ : ∃ g, w.heap.size = g := ⟨_, rfl⟩
 go_enter Try.func38, Try.ntmps38
 go_upto_region 1 with fail
 have hb2 : Below w.heap.size w (w.alloc (.cells #[.int .i64 a, .slice A0 l.length c0] 30)) := below_alloc (Below.refl _ _) _
 have k1 : (w.alloc (.cells #[.int .i64 a, .slice A0 l.length c0] 30)).heap[g]? = some (.cells #[.int .i64 a, .slice A0 l.length c0] 30 (0, 0)) := by rw [← hg]; exact blk_new w _
 generalize w.alloc (.cells #[.int .i64 a, .slice A0 l.length c0] 30) = w2 at hb2 k1 ⊢
 have hcall := hcnf w2 hb2
 have x0 := (blk_cell k1 0).trans (show _ = some (.int .i64 a) from rfl)
 have x1 := (blk_cell k1 1).trans (show _ = some (.slice A0 l.length c0) from rfl)
 have HG := Aside0.mk hg
 have HB2 := Aside0.mk hb2
 have HK2 := Aside0.mk k1
 clear hcnf hb2 k1 hg
 cases bc with
 | false =>
  rw [if_neg (by decide)] at h
  cases h
  go_wp2_with (first
   | (go_at_call 49; refine hcall.mono ?_; rintro e w3 ⟨rfl, hb3⟩; have HB3 := Aside0.mk (HB2.out.trans (hb3.mono HB2.out.size)); clear hb3 x0 x1 hcall)
   | ((with_reducible refine gate_dst (N := 8) rfl ?_); refine Kd.S_lit k68 (w0 := w) w.heap.size 68 ?hg (N := 8) ?hd (xs := ([] : List S68)) (inner := []) (ok := fun _ => True) (okp := fun _ => False) ?hr ?hp (fun _ hk => hk.elim) trivial HB3.out HB3.out.size (by simp) ?_; (case hd => rfl); (case hg => rfl); (case hr => first | (go_simp; done) | (go_simp; rfl)); (case hp => exact Reps.none _ _); intro v8 w9 ho hb hg_ hnew_; have HL := Aside0.mk ho; have HBL := Aside0.mk hb; clear ho hb hg_ hnew_))
  go_ret2
  exact ⟨_, rfl, HL.out, HBL.out⟩
 | true =>
  rw [if_pos rfl] at h
  by_cases hok : 0 ≤ a ∧ a ≤ 4000
  rotate_left
  ·rw [if_neg hok] at h; cases h
  rw [if_pos hok] at h
  obtain ⟨⟨p1, p2, p3⟩, hgo, h⟩ := Option.bind_eq_some_iff.1 h
  simp only at h
  have HGO := Aside0.mk hgo
  have HOK := Aside0.mk hok
  clear hgo hok
  go_upto_region 3 with (go_at_call 49; refine hcall.mono ?_; rintro e w3 ⟨rfl, hb3⟩; have HB3 := Aside0.mk (HB2.out.trans (hb3.mono HB2.out.size)); have HK3 := Aside0.mk (blk_below HK2.out hb3); clear hb3)
  clear x0 x1 hcall
  have x0 := (blk_cell HK3.out 0).trans (show _ = some (.int .i64 a) from rfl)
  have x1 := (blk_cell HK3.out 1).trans (show _ = some (.slice A0 l.length c0) from rfl)
  obtain ⟨b, hb⟩ : ∃ b, w3.heap.size = b := ⟨_, rfl⟩
  go_upto_region 4 with fail
  have hb4 : Below w3.heap.size w3 (w3.alloc (.cells #[.int .i64 a, .slice A0 l.length c0, .slice none 0 0, .bool false] 91)) := below_alloc (Below.refl _ _) _
  have k4 : (w3.alloc (.cells #[.int .i64 a, .slice A0 l.length c0, .slice none 0 0, .bool false] 91)).heap[b]? = some (.cells #[.int .i64 a, .slice A0 l.length c0, .slice none 0 0, .bool false] 91 (0, 0)) := by rw [← hb]; exact blk_new w3 _
  generalize w3.alloc (.cells #[.int .i64 a, .slice A0 l.length c0, .slice none 0 0, .bool false] 91) = w4 at hb4 k4 ⊢
  have HBB := Aside0.mk (show w.heap.size ≤ b by rw [← hb]; exact HB3.out.size)
  have HB4 := Aside0.mk (HB3.out.trans (hb4.mono HB3.out.size))
  have HK4 := Aside0.mk k4
  clear x0 x1 hb hb4 k4 HK2 HK3 HB2
  cases p1 with
  | true =>
   rw [if_pos rfl] at h
   cases h
   go_upto_region 8 with (first
    | ((with_reducible refine gate_dst (N := 13) rfl ?_); refine Kd.R_lit (Kd.int .i64) (w0 := w4) w4.heap.size 3 ?hg (N := 13) ?hd (xs := ([] : List Int)) (inner := []) (ok := fun _ => True) (okp := fun _ => False) ?hr ?hp (fun _ hk => hk.elim) trivial (Below.refl _ _) (Nat.le_refl _) (by simp) ?_; (case hd => rfl); (case hg => rfl); (case hr => first | (go_simp; done) | (go_simp; rfl)); (case hp => exact Reps.none _ _); intro v13 w5 ho hb hg_ hnew_; have hgo := from_any a A0 c0 l w b HR.out HC.out HOK.out.1 HOK.out.2 HBB.out k 43 v13 [] (.slice none 0 0) [] (fun _ => True) true p2 r1 w5 (fun x hx => by simp at hx) (by simp) (HB4.out.trans (hb.mono HB4.out.size)) (blk_below HK4.out hb) (Kd.R_lower ho HB4.out.size) (Kd.S_nil _ _ _ _ _) HGO.out; clear ho hb hg_ hnew_)
    | (go_at_call 79; refine hgo.mono ?_; rintro e w6 ⟨rfl, v6, bx6, hs6, -, hb6, -⟩; clear hgo; have BX6 := Aside0.mk bx6; have HS6 := Aside0.mk (Kd.S_mono (ok' := fun _ => True) hs6 (fun _ _ => trivial)); have HB6 := Aside0.mk hb6; clear bx6 hs6 hb6))
   obtain ⟨A6, c6, e6⟩ := Kd.S_slice HS6.out
   subst e6
   have x2 := (blk_cell BX6.out 2).trans (show _ = some (.slice A6 r1.length c6) from rfl)
   go_wp2
   go_ret2
   exact ⟨_, rfl, HS6.out, HB6.out⟩
  | false =>
   rw [if_neg (by decide)] at h
   go_upto_region 5 with (first
    | ((with_reducible refine gate_dst (N := 13) rfl ?_); refine Kd.R_lit (Kd.int .i64) (w0 := w4) w4.heap.size 3 ?hg (N := 13) ?hd (xs := ([] : List Int)) (inner := []) (ok := fun _ => True) (okp := fun _ => False) ?hr ?hp (fun _ hk => hk.elim) trivial (Below.refl _ _) (Nat.le_refl _) (by simp) ?_; (case hd => rfl); (case hg => rfl); (case hr => first | (go_simp; done) | (go_simp; rfl)); (case hp => exact Reps.none _ _); intro v13 w5 ho hb hg_ hnew_; have hgo := from_any a A0 c0 l w b HR.out HC.out HOK.out.1 HOK.out.2 HBB.out k 43 v13 [] (.slice none 0 0) [] (fun _ => True) false p2 p3 w5 (fun x hx => by simp at hx) (by simp) (HB4.out.trans (hb.mono HB4.out.size)) (blk_below HK4.out hb) (Kd.R_lower ho HB4.out.size) (Kd.S_nil _ _ _ _ _) HGO.out; clear ho hb hg_ hnew_)
    | (go_at_call 79; refine hgo.mono ?_; rintro e w6 ⟨rfl, v6, bx6, hs6, -, hb6, -⟩; clear hgo; have BX6 := Aside0.mk bx6; have HS6 := Aside0.mk (Kd.S_mono (ok' := fun _ => True) hs6 (fun _ _ => trivial)); have HB6 := Aside0.mk hb6; clear bx6 hs6 hb6))
   have x3 := (blk_cell BX6.out 3).trans (show _ = some (.bool p2) from rfl)
   cases p2 with
   | true =>
    rw [if_pos rfl] at h
    cases h
    go_wp2_with ((with_reducible refine gate_dst (N := 20) rfl ?_); refine Kd.S_lit k68 (w0 := w) w.heap.size 68 ?hg (N := 20) ?hd (xs := ([] : List S68)) (inner := []) (ok := fun _ => True) (okp := fun _ => False) ?hr ?hp (fun _ hk => hk.elim) trivial HB6.out HB6.out.size (by simp) ?_; (case hd => rfl); (case hg => rfl); (case hr => first | (go_simp; done) | (go_simp; rfl)); (case hp => exact Reps.none _ _); intro v8 w9 ho hb hg_ hnew_; have HL := Aside0.mk ho; have HBL := Aside0.mk hb; clear ho hb hg_ hnew_)
    go_ret2
    exact ⟨_, rfl, HL.out, HBL.out⟩
   | false =>
    rw [if_neg (by decide)] at h
    cases h
    go_wp2_with ((with_reducible refine gate_dst (N := 21) rfl ?_); refine Kd.S_lit k68 (w0 := w) w.heap.size 68 ?hg (N := 21) ?hd (xs := ([] : List S68)) (inner := []) (ok := fun _ => True) (okp := fun _ => False) ?hr ?hp (fun _ hk => hk.elim) trivial HB6.out HB6.out.size (by simp) ?_; (case hd => rfl); (case hg => rfl); (case hr => first | (go_simp; done) | (go_simp; rfl)); (case hp => exact Reps.none _ _); intro v8 w9 ho hb hg_ hnew_; have HL := Aside0.mk ho; have HBL := Aside0.mk hb; clear ho hb hg_ hnew_)
    go_ret2
    exact ⟨_, rfl, HL.out, HBL.out⟩
def impl_within.f (a0 : Int) (a1 : Int) (a2 : Int) : Option (Bool) := if a0 ≥ a1 then (some (decide (a0 ≤ a2))) else (some false)
set_option maxHeartbeats 8000000 in
set_option maxRecDepth 100000 in
theorem impl_within.calls (a0 : Int) (a1 : Int) (a2 : Int) (r : Bool) (w : World) (h : impl_within.f a0 a1 a2 = some r) :
  Calls Try.prog 83 #[.int .i64 a0, .int .i64 a1, .int .i64 a2] w fun e w' => e = .returned (.bool r) ∧ Drawn0 w w' := by
 have H : (if a0 ≥ a1 then (some (decide (a0 ≤ a2))) else (some false)) = some r := h
 clear h
 by_cases c4 : a0 ≥ a1
 ·rw [if_pos c4] at H
  have c4b0 : decide (a1 ≤ a0) = true := decide_eq_true c4
  clear c4
  obtain rfl := Option.some.inj H
  go_enter Try.func83, Try.ntmps83
  go_wp2
  go_ret
  exact ⟨by first | rfl | (simp; done) | (simp [*]; done), by repeat (first | exact Drawn0.refl _ | apply Drawn0.step)⟩
 ·rw [if_neg c4] at H
  have c4b0 : decide (a1 ≤ a0) = false := decide_eq_false c4
  clear c4
  obtain rfl := Option.some.inj H
  go_enter Try.func83, Try.ntmps83
  go_wp2
  go_ret
  exact ⟨by first | rfl | (simp; done) | (simp [*]; done), by repeat (first | exact Drawn0.refl _ | apply Drawn0.step)⟩
def impl_isLiteral.f (a0 : Int) (a1 : Int) : Option (Bool) := if a0 = 0 then (some false) else ((impl_within.f a0 (wrap64 (-a1)) a1).bind fun t165 => (some t165))
set_option maxHeartbeats 8000000 in
set_option maxRecDepth 100000 in
theorem impl_isLiteral.calls (a0 : Int) (a1 : Int) (r : Bool) (w : World) (h : impl_isLiteral.f a0 a1 = some r) :
  Calls Try.prog 68 #[.int .i64 a0, .int .i64 a1] w fun e w' => e = .returned (.bool r) ∧ Drawn0 w w' := by
 have H : (if a0 = 0 then (some false) else ((impl_within.f a0 (wrap64 (-a1)) a1).bind fun t165 => (some t165))) = some r := h
 clear h
 by_cases c3 : a0 = 0
 ·rw [if_pos c3] at H
  have c3b0 : (a0 == 0) = true := beq_iff_eq.mpr c3
  have c3b1 : (a0 != 0) = false := bne_eq_false_iff_eq.mpr c3
  clear c3
  obtain rfl := Option.some.inj H
  go_enter Try.func68, Try.ntmps68
  go_wp2
  go_ret
  exact ⟨by first | rfl | (simp; done) | (simp [*]; done), by repeat (first | exact Drawn0.refl _ | apply Drawn0.step)⟩
 ·rw [if_neg c3] at H
  have c3b0 : (a0 == 0) = false := beq_eq_false_iff_ne.mpr c3
  have c3b1 : (a0 != 0) = true := bne_iff_ne.mpr c3
  replace H := Option.bind_eq_some_iff.mp H
  obtain ⟨t165, A40, H⟩ := H
  replace H : (some t165) = some r := H
  have A4 := Aside0.mk A40
  clear A40
  obtain rfl := Option.some.inj H
  go_enter Try.func68, Try.ntmps68
  go_wp2_with (first | (go_at_call 83; (with_reducible refine (impl_within.calls a0 (wrap64 (-a1)) a1 t165 _ A4.out).mono ?_); rintro e w' ⟨rfl, ⟨nd, rfl⟩⟩))
  go_ret
  exact ⟨by first | rfl | (simp; done) | (simp [*]; done), by repeat (first | exact Drawn0.refl _ | apply Drawn0.step)⟩
def anyI (p : Nat → Bool) : Nat → Bool
 | 0 => false
 | n + 1 => anyI p n || p n
theorem anyI_none {p : Nat → Bool} : ∀ {n : Nat}, (∀ j, j < n → p j = false) → anyI p n = false
 | 0, _ => rfl
 | n + 1, h => by rw [anyI, anyI_none (fun j hj => h j (by omega)), h n (by omega)]; rfl
theorem anyI_some {p : Nat → Bool} : ∀ {n k : Nat}, k < n → p k = true → anyI p n = true
 | 0, _, h, _ => by omega
 | n + 1, k, h, hp => by
  rw [anyI]
  by_cases e : k = n
  ·subst e; rw [hp]; simp
  ·rw [anyI_some (show k < n by omega) hp]; simp
theorem anyI_list {α : Type} (q : α → Bool) (d : α) (p : Nat → Bool) : ∀ (l : List α), (∀ i, i < l.length → p i = q (l.getD i d)) → anyI p l.length = l.any q := by
 intro l h
 cases hq : l.any q with
 | true =>
  obtain ⟨x, hx, hqx⟩ := List.any_eq_true.1 hq
  obtain ⟨i, hi, rfl⟩ := List.mem_iff_getElem.1 hx
  exact anyI_some hi (by rw [h i hi]; simpa [List.getD, hi] using hqx)
 | false =>
  refine anyI_none (fun j hj => ?_)
  rw [h j hj]
  have := List.any_eq_false.1 hq (l.getD j d) (by simp [List.getD, hj])
  simpa using this
set_option maxHeartbeats 4000000 in
theorem idxInt (p : Nat → Bool) (V : Nat → Value) (g : Nat) (lb : Array Value) (eg : ∀ args w, (callFunc g args).run Try.prog w = .ok (.enter g args) w) (A : Option Addr) (n c : Nat) (w : World) (hn : n ≤ 9223372036854775807)
  (hc : 0 < n → ∃ ad, A = some ad ∧ ∀ i, i < n → w.cell? (ad.add i) = some (V i))
  (hp : ∀ i, i < n → ∀ W, Below w.heap.size w W → Calls Try.prog g (#[V i] ++ lb) W fun e W' => e = .returned (.bool (p i)) ∧ Below W.heap.size W W') :
  Calls Try.prog 126 #[.slice A n c, .func (.func g) #[] lb] w fun e w' => (∃ r : Int, e = .returned (.int .i64 r) ∧ decide (0 ≤ r) = anyI p n) ∧ Below w.heap.size w w' := by
 have HP := Aside0.mk hp
 have HC := Aside0.mk hc
 clear hp hc
 go_enter Try.func126, Try.ntmps126
 go_wp2
 go_loopg [5, 8] n (fun gg _ s8 wr => ∃ kk : Nat, kk ≤ n ∧ n - kk ≤ gg ∧ s8 = .int .i64 kk ∧ Aside0 (Below w.heap.size w wr) ∧ Aside0 (∀ j, j < kk → p j = false))
 case atStart => exact ⟨0, Nat.zero_le _, by omega, rfl, ⟨Below.refl _ _⟩, ⟨fun j hj => absurd hj (Nat.not_lt_zero _)⟩⟩
 case round =>
  obtain ⟨kk, hkk, hg, rfl, HB, HN⟩ := hrel
  by_cases hlt : kk < n
  ·have hltz : (kk : Int) < (n : Int) := by omega
   obtain ⟨ad, ea, hcell0⟩ := HC.out (by omega)
   have hcell := (HB.out.cell (World.block_lt_of_cell? w _ (hcell0 kk hlt))).trans (hcell0 kk hlt)
   clear hcell0
   cases ea
   have hcall := HP.out kk hlt _ HB.out
   cases hq : p kk with
   | true =>
    rw [hq] at hcall
    have HQ := Aside0.mk hq
    clear hq
    go_wp2_with (go_at_fn g; refine hcall.mono ?_; rintro e w' ⟨rfl, hb⟩)
    go_ret
    refine ⟨⟨kk, rfl, ?_⟩, HB.out.trans (hb.mono HB.out.size)⟩
    rw [anyI_some hlt HQ.out, decide_eq_true (by omega)]
   | false =>
    rw [hq] at hcall
    have HQ := Aside0.mk hq
    clear hq
    go_wp2_with (go_at_fn g; refine hcall.mono ?_; rintro e w' ⟨rfl, hb⟩)
    go_roundg (n - (kk + 1))
    case measure => omega
    case rel =>
     refine ⟨kk + 1, by omega, by omega, by go_num, ⟨HB.out.trans (hb.mono HB.out.size)⟩, ⟨fun j hj => ?_⟩⟩
     by_cases e : j = kk
     ·subst e
      exact HQ.out
     ·exact HN.out j (by omega)
  ·have hltz : ¬ (kk : Int) < (n : Int) := by omega
   have : kk = n := by omega
   subst this
   go_wp2
   go_ret
   refine ⟨⟨-1, rfl, ?_⟩, HB.out⟩
   rw [anyI_none HN.out]
   rfl
set_option maxHeartbeats 4000000 in
theorem anyInt (p : Nat → Bool) (V : Nat → Value) (g : Nat) (lb : Array Value) (eg : ∀ args w, (callFunc g args).run Try.prog w = .ok (.enter g args) w) (A : Option Addr) (n c : Nat) (w : World) (hn : n ≤ 9223372036854775807)
  (hc : 0 < n → ∃ ad, A = some ad ∧ ∀ i, i < n → w.cell? (ad.add i) = some (V i))
  (hp : ∀ i, i < n → ∀ W, Below w.heap.size w W → Calls Try.prog g (#[V i] ++ lb) W fun e W' => e = .returned (.bool (p i)) ∧ Below W.heap.size W W') :
  Calls Try.prog 103 #[.slice A n c, .func (.func g) #[] lb] w fun e w' => e = .returned (.bool (anyI p n)) ∧ Below w.heap.size w w' := by
 have hcall := idxInt p V g lb eg A n c w hn hc hp
 clear hp hc
 go_enter Try.func103, Try.ntmps103
 go_wp2_with (go_at_call 126; refine hcall.mono ?_; rintro e w' ⟨⟨r, rfl, hr⟩, hb⟩)
 go_ret
 exact ⟨by first | (rw [← hr]; rfl) | (rw [← hr]; simp), hb⟩
theorem anyIntL (q : Int → Bool) (g : Nat) (lb : Array Value) (eg : ∀ args w, (callFunc g args).run Try.prog w = .ok (.enter g args) w) (A : Option Addr) (l : List Int) (c : Nat) (w : World) (hr : Kd.C (Kd.int .i64) w A l.length l)
  (hp : ∀ x W, Below w.heap.size w W → Calls Try.prog g (#[.int .i64 x] ++ lb) W fun e W' => e = .returned (.bool (q x)) ∧ Below W.heap.size W W') :
  Calls Try.prog 103 #[.slice A l.length c, .func (.func g) #[] lb] w fun e w' => e = .returned (.bool (l.any q)) ∧ Below w.heap.size w w' := by
 have h := anyInt (fun i => q (l.getD i 0)) (fun i => .int .i64 (l.getD i 0)) g lb eg A l.length c w hr.2.1
  (fun hn => by
   obtain ⟨ad, ea, _⟩ := hr.2.2 hn
   refine ⟨ad, ea, fun i hi => ?_⟩
   obtain ⟨ad', ea', hx⟩ := Kd.at_int hr (i : Int) (by omega) (by omega)
   cases ea
   cases ea'
   exact hx)
  (fun i hi W hb => hp _ W hb)
 rwa [anyI_list q 0 _ l (fun i _ => rfl)] at h
def litB (x vars : Int) : Bool := decide (x ≠ 0) && (decide (wrap64 (-vars) ≤ x) && decide (x ≤ vars))
def clauseB (c : List Int) (vars : Int) : Bool := decide (c.length ≤ 12) && !(c.any fun x => !(litB x vars))
theorem lit_is (x vars : Int) : impl_isLiteral.f x vars = some (litB x vars) := by
 unfold impl_isLiteral.f impl_within.f litB
 by_cases h : x = 0
 ·simp [h]
 ·by_cases h2 : wrap64 (-vars) ≤ x <;> simp [h, h2]
set_option maxHeartbeats 4000000 in
set_option maxRecDepth 100000 in
theorem isClause_fn (x vars : Int) (B : Nat) (W : World) (hB : W.cell? ⟨B, 0, none⟩ = some (.int .i64 vars)) :
  Calls Try.prog 104 #[.int .i64 x, .pointer (some ⟨B, 0, none⟩)] W fun e W' => e = .returned (.bool (!(litB x vars))) ∧ Below W.heap.size W W' := by
 have hcall := fun V => impl_isLiteral.calls x vars _ V (lit_is x vars)
 generalize litB x vars = b at hcall ⊢
 go_enter Try.func104, Try.ntmps104
 go_wp2_with (go_at_call 68; refine (hcall _).mono ?_; rintro e w' ⟨rfl, hd⟩)
 go_ret
 exact ⟨rfl, hd.below⟩
def impl_isClause.f (l0 : List Int) (a1 : Int) : Option Bool := some (clauseB l0 a1)
set_option maxHeartbeats 4000000 in
set_option maxRecDepth 100000 in
theorem impl_isClause.calls (A0 : Option Addr) (c0 : Nat) (l0 : List Int) (a1 : Int) (r : Bool) (w : World) (hr0 : Kd.C (Kd.int .i64) w A0 l0.length l0) (hc0 : l0.length ≤ c0) (h : impl_isClause.f l0 a1 = some r) :
  Calls Try.prog 61 #[.slice A0 l0.length c0, .int .i64 a1] w fun e w' => e = .returned (.bool r) ∧ Below w.heap.size w w' := by
 obtain rfl : clauseB l0 a1 = r := Option.some.inj h
 clear h
 unfold clauseB
 have hbox : (w.alloc (.cells #[.int .i64 a1] 3)).cell? ⟨w.heap.size, 0, none⟩ = some (.int .i64 a1) := by simp
 have hB0 : Below w.heap.size w (w.alloc (.cells #[.int .i64 a1] 3)) := (Below.refl _ _).alloc (Nat.le_refl _) _
 have hcon := anyIntL (fun x => !(litB x a1)) 104 #[.pointer (some ⟨w.heap.size, 0, none⟩)] (enters_of Try.func104 (by kernel_rfl) rfl) A0 l0 c0 (w.alloc (.cells #[.int .i64 a1] 3)) (Kd.C_below hr0 hB0)
  (fun x W hb => isClause_fn _ _ _ _ ((hb.cell (p := ⟨w.heap.size, 0, none⟩) (by simp)).trans hbox))
 generalize (l0.any fun x => !(litB x a1)) = b at hcon ⊢
 clear hbox hr0
 by_cases hle : l0.length ≤ 12
 ·rw [decide_eq_true hle, Bool.true_and]
  have hle2 : decide (l0.length ≤ 12) = true := decide_eq_true hle
  go_enter Try.func61, Try.ntmps61
  go_wp2_with (go_at_call 103; refine hcon.mono ?_; rintro e w' ⟨rfl, hb⟩)
  go_ret
  exact ⟨rfl, hB0.trans (hb.mono hB0.size)⟩
 ·rw [decide_eq_false hle, Bool.false_and]
  have hle2 : decide (l0.length ≤ 12) = false := decide_eq_false hle
  have hle3 : 12 < l0.length := by omega
  clear hcon
  go_enter Try.func61, Try.ntmps61
  go_wp2
  go_ret
  exact ⟨rfl, hB0⟩
end Go.Proofs.Ytelfahcjeldliaa.PFnExactRefutation
end
section
namespace Go.Proofs.Ytelfahcjeldliaa.PFnExactRefutation
open Go.RowKit Go.Proofs.YtelfahcjeldliaaW.PrintWords Go.Proofs.YtelfahcjeldliaaW.PrintLast Go.Proofs.YtelfahcjeldliaaW.PrintMore
attribute [local go_sem] max2_int min2_int max_two min_two max_three min_three max_four min_four   -- for this text's walks alone
set_option linter.unusedVariables false
set_option linter.unusedSimpArgs false
set_option maxHeartbeats 4000000 in
theorem idxInts (p : Nat → Bool) (V : Nat → Value) (g : Nat) (lb : Array Value) (eg : ∀ args w, (callFunc g args).run Try.prog w = .ok (.enter g args) w) (A : Option Addr) (n c : Nat) (w : World) (hn : n ≤ 9223372036854775807)
  (hc : 0 < n → ∃ ad, A = some ad ∧ ∀ i, i < n → w.cell? (ad.add i) = some (V i))
  (hp : ∀ i, i < n → ∀ W, Below w.heap.size w W → Calls Try.prog g (#[V i] ++ lb) W fun e W' => e = .returned (.bool (p i)) ∧ Below W.heap.size W W') :
  Calls Try.prog 124 #[.slice A n c, .func (.func g) #[] lb] w fun e w' => (∃ r : Int, e = .returned (.int .i64 r) ∧ decide (0 ≤ r) = anyI p n) ∧ Below w.heap.size w w' := by
 have HP := Aside0.mk hp
 have HC := Aside0.mk hc
 clear hp hc
 go_enter Try.func124, Try.ntmps124
 go_wp2
 go_loopg [5, 8] n (fun gg _ s8 wr => ∃ kk : Nat, kk ≤ n ∧ n - kk ≤ gg ∧ s8 = .int .i64 kk ∧ Aside0 (Below w.heap.size w wr) ∧ Aside0 (∀ j, j < kk → p j = false))
 case atStart => exact ⟨0, Nat.zero_le _, by omega, rfl, ⟨Below.refl _ _⟩, ⟨fun j hj => absurd hj (Nat.not_lt_zero _)⟩⟩
 case round =>
  obtain ⟨kk, hkk, hg, rfl, HB, HN⟩ := hrel
  by_cases hlt : kk < n
  ·have hltz : (kk : Int) < (n : Int) := by omega
   obtain ⟨ad, ea, hcell0⟩ := HC.out (by omega)
   have hcell := (HB.out.cell (World.block_lt_of_cell? w _ (hcell0 kk hlt))).trans (hcell0 kk hlt)
   clear hcell0
   cases ea
   have hcall := HP.out kk hlt _ HB.out
   cases hq : p kk with
   | true =>
    rw [hq] at hcall
    have HQ := Aside0.mk hq
    clear hq
    go_wp2_with (go_at_fn g; refine hcall.mono ?_; rintro e w' ⟨rfl, hb⟩)
    go_ret
    refine ⟨⟨kk, rfl, ?_⟩, HB.out.trans (hb.mono HB.out.size)⟩
    rw [anyI_some hlt HQ.out, decide_eq_true (by omega)]
   | false =>
    rw [hq] at hcall
    have HQ := Aside0.mk hq
    clear hq
    go_wp2_with (go_at_fn g; refine hcall.mono ?_; rintro e w' ⟨rfl, hb⟩)
    go_roundg (n - (kk + 1))
    case measure => omega
    case rel =>
     refine ⟨kk + 1, by omega, by omega, by go_num, ⟨HB.out.trans (hb.mono HB.out.size)⟩, ⟨fun j hj => ?_⟩⟩
     by_cases e : j = kk
     ·subst e
      exact HQ.out
     ·exact HN.out j (by omega)
  ·have hltz : ¬ (kk : Int) < (n : Int) := by omega
   have : kk = n := by omega
   subst this
   go_wp2
   go_ret
   refine ⟨⟨-1, rfl, ?_⟩, HB.out⟩
   rw [anyI_none HN.out]
   rfl
set_option maxHeartbeats 4000000 in
theorem anyInts (p : Nat → Bool) (V : Nat → Value) (g : Nat) (lb : Array Value) (eg : ∀ args w, (callFunc g args).run Try.prog w = .ok (.enter g args) w) (A : Option Addr) (n c : Nat) (w : World) (hn : n ≤ 9223372036854775807)
  (hc : 0 < n → ∃ ad, A = some ad ∧ ∀ i, i < n → w.cell? (ad.add i) = some (V i))
  (hp : ∀ i, i < n → ∀ W, Below w.heap.size w W → Calls Try.prog g (#[V i] ++ lb) W fun e W' => e = .returned (.bool (p i)) ∧ Below W.heap.size W W') :
  Calls Try.prog 98 #[.slice A n c, .func (.func g) #[] lb] w fun e w' => e = .returned (.bool (anyI p n)) ∧ Below w.heap.size w w' := by
 have hcall := idxInts p V g lb eg A n c w hn hc hp
 clear hp hc
 go_enter Try.func98, Try.ntmps98
 go_wp2_with (go_at_call 124; refine hcall.mono ?_; rintro e w' ⟨⟨r, rfl, hr⟩, hb⟩)
 go_ret
 exact ⟨by first | (rw [← hr]; rfl) | (rw [← hr]; simp), hb⟩
theorem anyIntsL (q : List Int → Bool) (g : Nat) (lb : Array Value) (eg : ∀ args w, (callFunc g args).run Try.prog w = .ok (.enter g args) w) (A : Option Addr) (l : List (List Int)) (c : Nat) (w : World) (hr : Kd.C (Kd.slice 3 (Kd.int .i64)) w A l.length l)
  (hp : ∀ A0 c0 (x : List Int) W, Below w.heap.size w W → Kd.C (Kd.int .i64) W A0 x.length x → x.length ≤ c0 → Calls Try.prog g (#[.slice A0 x.length c0] ++ lb) W fun e W' => e = .returned (.bool (q x)) ∧ Below W.heap.size W W') :
  Calls Try.prog 98 #[.slice A l.length c, .func (.func g) #[] lb] w fun e w' => e = .returned (.bool (l.any q)) ∧ Below w.heap.size w w' := by
 have hV : ∀ i, i < l.length → ∃ v : Value, (∃ ad, A = some ad ∧ w.cell? (ad.add i) = some v) ∧ ∃ A0 c0, v = .slice A0 (l.getD i []).length c0 ∧ (l.getD i []).length ≤ c0 ∧ Kd.C (Kd.int .i64) w A0 (l.getD i []).length (l.getD i []) := by
  intro i hi
  obtain ⟨ad, A0, c0, ea, hx, hl, hC⟩ := at_L1 hr (i : Int) (by omega) (by omega)
  exact ⟨_, ⟨ad, ea, hx⟩, A0, c0, rfl, hl, hC⟩
 have hinh : Inhabited Value := ⟨.bool false⟩
 obtain ⟨V, hV⟩ := Go.Deep.choose_lt hV
 have h := anyInts (fun i => q (l.getD i [])) V g lb eg A l.length c w hr.2.1
  (fun hn => by
   obtain ⟨ad, ea, _⟩ := hr.2.2 hn
   refine ⟨ad, ea, fun i hi => ?_⟩
   obtain ⟨⟨ad', ea', hx⟩, _⟩ := hV i hi
   cases ea
   cases ea'
   exact hx)
  (fun i hi W hb => by
   obtain ⟨_, A0, c0, ev, hl, hC⟩ := hV i hi
   rw [ev]
   exact hp A0 c0 _ W hb (Kd.C_below hC hb) hl)
 rwa [anyI_list q [] _ l (fun i _ => rfl)] at h
def cnfB (vars : Int) (cs : List (List Int)) : Bool := decide (0 ≤ vars) && (decide (vars ≤ 40) && (decide (cs.length ≤ 300) && !(cs.any fun c => !(clauseB c vars))))
theorem below_drewN' {B : Nat} {a w : World} (h : Below B a w) (q : Nat) : Below B a (w.drewN q) := ⟨h.os, h.tape, h.output, h.size, h.block⟩
set_option maxHeartbeats 4000000 in
set_option maxRecDepth 100000 in
theorem isCnf_fn (A0 : Option Addr) (c0 : Nat) (l0 : List Int) (vars : Int) (B : Nat) (W : World) (hr0 : Kd.C (Kd.int .i64) W A0 l0.length l0) (hc0 : l0.length ≤ c0) (hB : W.cell? ⟨B, 0, none⟩ = some (.int .i64 vars)) :
  Calls Try.prog 99 #[.slice A0 l0.length c0, .pointer (some ⟨B, 0, none⟩)] W fun e W' => e = .returned (.bool (!(clauseB l0 vars))) ∧ Below W.heap.size W W' := by
 have hcall := fun V hV => impl_isClause.calls A0 c0 l0 vars _ V hV hc0 rfl
 have HR := Aside0.mk hr0
 clear hr0
 generalize clauseB l0 vars = b at hcall ⊢
 go_enter Try.func99, Try.ntmps99
 go_wp2_with (go_at_call 61; refine (hcall _ HR.out).mono ?_; rintro e w' ⟨rfl, hb⟩)
 go_ret
 exact ⟨rfl, hb⟩
def impl_isCnf.f (a0_0 : Int) (l0_1 : List (List Int)) : Option Bool := some (cnfB a0_0 l0_1)
set_option maxHeartbeats 4000000 in
set_option maxRecDepth 100000 in
theorem impl_isCnf.calls (a0_0 : Int) (A0_1 : Option Addr) (c0_1 : Nat) (l0_1 : List (List Int)) (r : Bool) (w : World) (hr0_1 : Kd.C (Kd.slice 3 (Kd.int .i64)) w A0_1 l0_1.length l0_1) (hc0_1 : l0_1.length ≤ c0_1) (h : impl_isCnf.f a0_0 l0_1 = some r) :
  Calls Try.prog 54 #[.agg #[.int .i64 a0_0, .slice A0_1 l0_1.length c0_1]] w fun e w' => e = .returned (.bool r) ∧ Below w.heap.size w w' := by
 obtain rfl : cnfB a0_0 l0_1 = r := Option.some.inj h
 clear h
 unfold cnfB
 have hu := Try.underlying30
 have hwi : ∀ V, Calls Try.prog 83 #[.int .i64 a0_0, .int .i64 0, .int .i64 40] V fun e V' => e = .returned (.bool (decide (0 ≤ a0_0) && decide (a0_0 ≤ 40))) ∧ Drawn0 V V' := fun V =>
  impl_within.calls a0_0 0 40 _ V (by
   unfold impl_within.f
   by_cases h : a0_0 ≥ 0
   ·rw [if_pos h, decide_eq_true h, Bool.true_and]
   ·rw [if_neg h, decide_eq_false h, Bool.false_and])
 have hcon := fun (W : World) (hbW : W.cell? ⟨w.heap.size, 0, none⟩ = some (.int .i64 a0_0)) (hlt : w.heap.size < W.heap.size) (hr : Kd.C (Kd.slice 3 (Kd.int .i64)) W A0_1 l0_1.length l0_1) =>
  anyIntsL (fun c => !(clauseB c a0_0)) 99 #[.pointer (some ⟨w.heap.size, 0, none⟩)] (enters_of Try.func99 (by kernel_rfl) rfl) A0_1 l0_1 c0_1 W hr
   (fun A0 c0 x W' hb hC hc => isCnf_fn A0 c0 x a0_0 _ W' hC hc ((hb.cell (p := ⟨w.heap.size, 0, none⟩) hlt).trans hbW))
 have hB0 : Below w.heap.size w (w.alloc (.cells #[.int .i64 a0_0, .slice A0_1 l0_1.length c0_1] 30)) := (Below.refl _ _).alloc (Nat.le_refl _) _
 have HR := Aside0.mk hr0_1
 have HC := Aside0.mk hc0_1
 clear hr0_1 hc0_1
 generalize (l0_1.any fun c => !(clauseB c a0_0)) = b at hcon ⊢
 cases hv : (decide (0 ≤ a0_0) && decide (a0_0 ≤ 40)) with
 | false =>
  have e1 : (decide (0 ≤ a0_0) && (decide (a0_0 ≤ 40) && (decide (l0_1.length ≤ 300) && !b))) = false := by rw [← Bool.and_assoc, hv, Bool.false_and]
  rw [e1]
  rw [hv] at hwi
  clear hcon hv e1
  go_enter Try.func54, Try.ntmps54
  go_wp2_with (go_at_call 83; refine (hwi _).mono ?_; rintro e w' ⟨rfl, ⟨nd, rfl⟩⟩)
  go_ret
  exact ⟨rfl, below_drewN' hB0 _⟩
 | true =>
  have e1 : (decide (0 ≤ a0_0) && (decide (a0_0 ≤ 40) && (decide (l0_1.length ≤ 300) && !b))) = (decide (l0_1.length ≤ 300) && !b) := by rw [← Bool.and_assoc, hv, Bool.true_and]
  rw [e1]
  rw [hv] at hwi
  clear hv e1
  by_cases hle : l0_1.length ≤ 300
  ·have hle2 : decide (l0_1.length ≤ 300) = true := decide_eq_true hle
   rw [hle2, Bool.true_and]
   go_enter Try.func54, Try.ntmps54
   go_wp2_with (first | (go_at_call 83; refine (hwi _).mono ?_; rintro e w' ⟨rfl, ⟨nd, rfl⟩⟩) | (go_at_call 98; refine (hcon _ (by simp) (by simp) (Kd.C_below HR.out (below_drewN' hB0 _))).mono ?_; rintro e w' ⟨rfl, hb⟩))
   go_ret
   exact ⟨rfl, (below_drewN' hB0 _).trans (hb.mono (below_drewN' hB0 _).size)⟩
  ·have hle2 : decide (l0_1.length ≤ 300) = false := decide_eq_false hle
   rw [hle2, Bool.false_and]
   have hle3 : 300 < l0_1.length := by omega
   clear hcon
   go_enter Try.func54, Try.ntmps54
   go_wp2_with (go_at_call 83; refine (hwi _).mono ?_; rintro e w' ⟨rfl, ⟨nd, rfl⟩⟩)
   go_ret
   exact ⟨rfl, below_drewN' hB0 _⟩
def newState_T : Bool × List (List Nat × List Nat) := (true, [([], []), ([], []), ([1], [1]), ([2], [2]), ([3, 3], [3]), ([0, 4], [0, 4]), ([5], [5]), ([6, 0, 1, 2, 3, 4, 5, 6], [6])])
def newState_B : List Nat := [0, 0, 2, 6, 14, 31, 63, 127]
theorem newState_tab : rtab .any (opsOf Try.f67 1) = newState_T := by kernel_rfl
theorem newState_bits : waitsOk newState_T.2 newState_B = true := by kernel_rfl
set_option maxHeartbeats 4000000 in
set_option maxRecDepth 100000 in
theorem newState_any (vars : Int) (A : Option Addr) (n c : Nat) (w : World) (h0 : 0 ≤ vars) (h1 : vars ≤ 4000) :
  Calls Try.prog 67 #[.agg #[.int .i64 vars, .slice A n c]] w fun e W' => ∃ g b cv, e = .returned (.pointer (some ⟨g, 0, none⟩)) ∧ ST w W' g b vars A n c cv (List.replicate (vars + 1).toNat 0) := by
 obtain ⟨vs, hvs⟩ : ∃ vs, List.replicate (vars + 1).toNat (0 : Int) = vs := ⟨_, rfl⟩
 rw [hvs]
 have HV := Aside0.mk hvs
 have HVL := Aside0.mk (show vs.length = (vars + 1).toNat by rw [← hvs]; simp)
 clear hvs
 have hu_Cnf := Try.underlying30
 have hu_state := Try.underlying112
 have ew : IntKind.i64.wrap (vars + 1) = vars + 1 := IntWalk.i64_in _ (by omega)
 go_enter Try.func67, Try.ntmps67
 have hW : (w.alloc (.cells #[.int .i64 vars, .slice A n c] 30)).heap[w.heap.size]? = some (.cells #[.int .i64 vars, .slice A n c] 30 (0, 0)) := by
  show (w.heap.push _)[w.heap.size]? = _
  simp
 obtain ⟨W1, gb, hW1, hgb, BX, HB1⟩ : ∃ W1 gb, w.alloc (.cells #[.int .i64 vars, .slice A n c] 30) = W1 ∧ w.heap.size = gb ∧ Aside0 (W1.heap[gb]? = some (.cells #[.int .i64 vars, .slice A n c] 30 (0, 0))) ∧ Aside0 (Below w.heap.size w W1) :=
  ⟨_, _, rfl, rfl, ⟨hW⟩, ⟨(Below.refl _ _).alloc (Nat.le_refl _) _⟩⟩
 have HW1 := Aside0.mk hW1
 have HGB := Aside0.mk hgb
 clear hW hW1 hgb
 go_upto_region 1 with fail
 rw [HW1.out, HGB.out]
 clear HW1
 refine start_ (n := 8) (S := fun w' => w'.cell? ⟨gb, 0, none⟩ = some (.int .i64 vars) ∧ w'.cell? ⟨gb, 1, none⟩ = some (.slice A n c)) (ds := []) #[false, false, false, false, false, false, false, false] (by kernel_rfl) rfl rfl ⟨(blk_cell BX.out 0).trans rfl, (blk_cell BX.out 1).trans rfl⟩ (fun hHeld => ?_)
 refine with_tabW newState_tab newState_bits (fun HT_ HW_ => ?_)
 replace BX : Aside0 (W1.drew.heap[gb]? = some (.cells #[.int .i64 vars, .slice A n c] 30 (0, 0))) := ⟨BX.out⟩
 replace HB1 : Aside0 (Below w.heap.size w W1.drew) := ⟨HB1.out.drew⟩
 generalize W1.drew = w20 at BX HB1 hHeld ⊢
 refine pure_ (i := 1) (N := some 4) (v := ?_) (a' := ?_) #[false, true, false, false, false, false, false, false] rfl rfl (any_of HT_.out (by kernel_rfl)) (fun _ _ _ h => h) (Or.inl ⟨by rfl, ?_⟩) ?_ ?_
 rotate_left
 ·intro w'
  go_simp
  with_reducible rfl
 rotate_left
 ·simp only [Act.put, List.setIfInBounds_toArray, List.set_cons_zero, List.set_cons_succ, i64_w, i32_w]
  rfl
 refine take_ (i := 0) (N := some 3) (v := ?_) (a' := ?_) #[true, true, false, false, false, false, false, false] rfl rfl (take_ofW HT_.out HW_.out (by kernel_rfl)) (fun _ _ _ h => h) (Or.inl ⟨by rfl, ?_⟩) hHeld ?_ ?_
 rotate_left
 ·rintro w' ⟨s0, s1⟩
  go_simp
  with_reducible rfl
 rotate_left
 ·simp only [Act.put, List.setIfInBounds_toArray, List.set_cons_zero, List.set_cons_succ, i64_w, i32_w]
  rfl
 refine take_ (i := 2) (N := some 5) (v := ?_) (a' := ?_) #[true, true, true, false, false, false, false, false] rfl rfl (take_ofW HT_.out HW_.out (by kernel_rfl)) (fun _ _ _ h => h) (Or.inl ⟨by rfl, ?_⟩) hHeld ?_ ?_
 rotate_left
 ·rintro w' ⟨s0, s1⟩
  go_simp
  with_reducible rfl
 rotate_left
 ·simp only [Act.put, List.setIfInBounds_toArray, List.set_cons_zero, List.set_cons_succ, i64_w, i32_w]
  rfl
 refine pure_ (i := 3) (N := some 6) (v := ?_) (a' := ?_) #[true, true, true, true, false, false, false, false] rfl rfl (any_of HT_.out (by kernel_rfl)) (fun _ _ _ h => h) (Or.inl ⟨by rfl, ?_⟩) ?_ ?_
 rotate_left
 ·intro w'
  go_simp
  with_reducible rfl
 rotate_left
 ·simp only [Act.put, List.setIfInBounds_toArray, List.set_cons_zero, List.set_cons_succ, i64_w, i32_w]
  rfl
 refine one_ (i := 4) (N := some 7) #[true, true, true, true, true, false, false, false] rfl rfl (one_of HT_.out (by kernel_rfl)) (by decide) (fun K hK => ?_)
 refine Kd.R_make_step (Kd.int .i64) (w0 := w) w.heap.size 3 (by rfl) (N := 7) rfl 37 (.tmp 6) (.tmp 6) rfl (vars + 1) (by first | rfl | (go_simp; done) | (go_simp; rfl)) (by first | rfl | (go_simp; done) | (go_simp; rfl)) Try.underlying37 (.int .i64 0) 8 info3 rfl (by decide) (by decide) (0 : Int) (ok := fun k => k ≠ gb) (okp := fun _ => False) rfl (fun _ hk => hk.elim) (by have := blk_lt BX.out; omega) (by omega) (by omega) HB1.out (by exact HB1.out.size) ?_
 intro v1 w21 ho hb hg hnew
 obtain ⟨b, cap, ev, hb0, hb1, cells, hcells⟩ := Kd.R_form ho (by simp; omega)
 subst ev
 have n0_ := Aside0.mk (blk_grown BX.out hg (by simp))
 have n1_ := Aside0.mk hb
 have n2_ := Aside0.mk ho
 clear BX HB1 hcells hb hg
 have BX := n0_
 have HB1 := n1_
 clear n0_ n1_ ho hnew
 rw [HV.out] at n2_
 refine hK.out _ _ ⟨(blk_cell BX.out 0).trans rfl, (blk_cell BX.out 1).trans rfl⟩ (fun hHeld => ?_)
 clear hK K
 refine norm_ (a' := ?_) ?_ ?_
 rotate_left
 ·show Act.put _ (some 7) _ = _
  simp only [Act.put, List.setIfInBounds_toArray, List.set_cons_zero, List.set_cons_succ, i64_w, i32_w]
  rfl
 refine pure_ (i := 5) (N := some 8) (v := ?_) (a' := ?_) #[true, true, true, true, true, true, false, false] rfl rfl (any_of HT_.out (by kernel_rfl)) (fun _ _ _ h => h) (Or.inl ⟨by rfl, ?_⟩) ?_ ?_
 rotate_left
 ·intro w'
  go_simp
  with_reducible rfl
 rotate_left
 ·simp only [Act.put, List.setIfInBounds_toArray, List.set_cons_zero, List.set_cons_succ, i64_w, i32_w]
  rfl
 refine one_ (i := 6) (N := some 9) #[true, true, true, true, true, true, true, false] rfl rfl (one_of HT_.out (by kernel_rfl)) (by decide) (fun K hK => ?_)
 refine box_step (by rfl) (N := 9) rfl (cs := #[.int .i64 vars, .slice A n c, .slice (some ⟨b, 0, none⟩) (vars + 1).toNat cap]) (t := 112) ?hr9 ?_
 case hr9 => first | (go_simp; done) | (go_simp; rfl)
 intro g hg w22 hbox hb2
 have n0_ := Aside0.mk (blk_below BX.out hb2)
 have n1_ := Aside0.mk (HB1.out.trans (hb2.mono HB1.out.size))
 have n3_ := Aside0.mk (Kd.R_below n2_.out hb2)
 have n4_ := Aside0.mk (show w22.heap[g]? = some (.cells #[.int .i64 vars, .slice A n c, .slice (some ⟨b, 0, none⟩) vs.length cap] 112 (0, 0)) by rw [HVL.out]; exact hbox)
 have n5_ := Aside0.mk (show w.heap.size ≤ g by rw [hg]; exact HB1.out.size)
 clear BX HB1 n2_ hbox hb2 hg
 refine hK.out _ _ ⟨(blk_cell n0_.out 0).trans rfl, (blk_cell n0_.out 1).trans rfl⟩ (fun hHeld => ?_)
 clear hK K
 refine norm_ (a' := ?_) ?_ ?_
 rotate_left
 ·show Act.put _ (some 9) _ = _
  simp only [Act.put, List.setIfInBounds_toArray, List.set_cons_zero, List.set_cons_succ, i64_w, i32_w]
  rfl
 refine pure_ (i := 7) (N := some 2) (v := ?_) (a' := ?_) #[true, true, true, true, true, true, true, true] rfl rfl (any_of HT_.out (by kernel_rfl)) (fun _ _ _ h => h) (Or.inl ⟨by rfl, ?_⟩) ?_ ?_
 rotate_left
 ·intro w'
  go_simp
  with_reducible rfl
 rotate_left
 ·simp only [Act.put, List.setIfInBounds_toArray, List.set_cons_zero, List.set_cons_succ, i64_w, i32_w]
  rfl
 refine done_ (done_of HT_.out (by kernel_rfl)) ?_
 go_wp2
 go_ret
 exact ⟨g, b, cap, rfl, n1_.out, n5_.out, n4_.out, Kd.R_mono n3_.out (fun _ _ => trivial)⟩
theorem ST.older {w0 w W : World} {g b : Nat} {vars : Int} {A : Option Addr} {n c cv : Nat} {vals : List Int} (h : ST w W g b vars A n c cv vals) (hB : Below w0.heap.size w0 w) : ST w0 W g b vars A n c cv vals :=
 ⟨hB.trans (h.base.mono hB.size), Nat.le_trans hB.size h.old, h.blk, Kd.R_lower h.own hB.size⟩
def impl_Refutation.f (k : Nat) (a : Int) (l : List (List Int)) : Option (List S68 × Int) :=
 if cnfB a l = true then (if 0 ≤ a ∧ a ≤ 40 ∧ (l.all fun c => fitL (a + 1).toNat c) = true then (goL l k 43 (List.replicate (a + 1).toNat 0) [] []).bind fun p => if p.1 = 0 then some (p.2, 0) else some ([], p.1) else none) else some ([], 1)
set_option maxHeartbeats 4000000 in
set_option maxRecDepth 100000 in
theorem impl_Refutation.calls (k : Nat) (a : Int) (A0 : Option Addr) (c0 : Nat) (l : List (List Int)) (r1 : List S68) (r2 : Int) (w : World) (hr0 : Kd.C (Kd.slice 3 (Kd.int .i64)) w A0 l.length l) (hc0 : l.length ≤ c0) (h : impl_Refutation.f k a l = some (r1, r2)) :
  Calls Try.prog 39 #[.agg #[.int .i64 a, .slice A0 l.length c0]] w fun e w' => ∃ v, e = .returned (.tuple #[v, .int .i64 r2]) ∧ Kd.S k68 68 w' w.heap.size (fun _ => True) v r1 ∧ Below w.heap.size w w' := by
 have hu30 := Try.underlying30
 have hu95 := Try.underlying95
 unfold impl_Refutation.f at h
 have HR := Aside0.mk hr0
 have HC := Aside0.mk hc0
 obtain ⟨bc, hbc⟩ : ∃ bc, cnfB a l = bc := ⟨_, rfl⟩
 have hcnf := fun W (hW : Below w.heap.size w W) => impl_isCnf.calls a A0 c0 l bc W (Kd.C_below hr0 hW) hc0 (by unfold impl_isCnf.f; rw [hbc])
 rw [hbc] at h
 clear hr0 hc0 hbc
 obtain ⟨g, hg⟩ : ∃ g, w.heap.size = g := ⟨_, rfl⟩
 go_enter Try.func39, Try.ntmps39
 go_upto_region 1 with fail
 have hb2 : Below w.heap.size w (w.alloc (.cells #[.int .i64 a, .slice A0 l.length c0] 30)) := below_alloc (Below.refl _ _) _
 have k1 : (w.alloc (.cells #[.int .i64 a, .slice A0 l.length c0] 30)).heap[g]? = some (.cells #[.int .i64 a, .slice A0 l.length c0] 30 (0, 0)) := by rw [← hg]; exact blk_new w _
 generalize w.alloc (.cells #[.int .i64 a, .slice A0 l.length c0] 30) = w2 at hb2 k1 ⊢
 have hcall := hcnf w2 hb2
 have x0 := (blk_cell k1 0).trans (show _ = some (.int .i64 a) from rfl)
 have x1 := (blk_cell k1 1).trans (show _ = some (.slice A0 l.length c0) from rfl)
 have HG := Aside0.mk hg
 have HB2 := Aside0.mk hb2
 have HK2 := Aside0.mk k1
 clear hcnf hb2 k1 hg
 cases bc with
 | false =>
  rw [if_neg (by decide)] at h
  cases h
  go_wp2_with (go_at_call 54; refine hcall.mono ?_; rintro e w3 ⟨rfl, hb3⟩; have HB3 := Aside0.mk (HB2.out.trans (hb3.mono HB2.out.size)); clear hb3)
  go_ret2
  exact ⟨_, rfl, Kd.S_nil _ _ _ _ _, HB3.out⟩
 | true =>
  rw [if_pos rfl] at h
  by_cases hok : 0 ≤ a ∧ a ≤ 40 ∧ (l.all fun c => fitL (a + 1).toNat c) = true
  rotate_left
  ·rw [if_neg hok] at h; cases h
  rw [if_pos hok] at h
  obtain ⟨⟨code, st⟩, hgo, h⟩ := Option.bind_eq_some_iff.1 h
  simp only at h
  have HGO := Aside0.mk hgo
  have HOK := Aside0.mk hok
  clear hgo hok
  go_upto_region 3 with (go_at_call 54; refine hcall.mono ?_; rintro e w3 ⟨rfl, hb3⟩; have HB3 := Aside0.mk (HB2.out.trans (hb3.mono HB2.out.size)); have HK3 := Aside0.mk (blk_below HK2.out hb3); clear hb3)
  clear x0 x1 hcall
  have x0 := (blk_cell HK3.out 0).trans (show _ = some (.int .i64 a) from rfl)
  have x1 := (blk_cell HK3.out 1).trans (show _ = some (.slice A0 l.length c0) from rfl)
  obtain ⟨b, hb⟩ : ∃ b, w3.heap.size = b := ⟨_, rfl⟩
  go_upto_region 4 with fail
  have hb4 : Below w3.heap.size w3 (w3.alloc (.cells #[.int .i64 a, .slice A0 l.length c0, .slice none 0 0] 95)) := below_alloc (Below.refl _ _) _
  have k4 : (w3.alloc (.cells #[.int .i64 a, .slice A0 l.length c0, .slice none 0 0] 95)).heap[b]? = some (.cells #[.int .i64 a, .slice A0 l.length c0, .slice none 0 0] 95 (0, 0)) := by rw [← hb]; exact blk_new w3 _
  generalize w3.alloc (.cells #[.int .i64 a, .slice A0 l.length c0, .slice none 0 0] 95) = w4 at hb4 k4 ⊢
  have HBB := Aside0.mk (show w.heap.size ≤ b by rw [← hb]; exact HB3.out.size)
  have HB4 := Aside0.mk (HB3.out.trans (hb4.mono HB3.out.size))
  have HK4 := Aside0.mk k4
  have HG4 := Aside0.mk (blk_below HK3.out hb4)
  clear x0 x1 hb hb4 k4
  have x0 := (blk_cell HG4.out 0).trans (show _ = some (.int .i64 a) from rfl)
  have x1 := (blk_cell HG4.out 1).trans (show _ = some (.slice A0 l.length c0) from rfl)
  have hns := newState_any a A0 l.length c0 w4 HOK.out.1 (by have := HOK.out.2.1; omega)
  have hzl : (List.replicate (a + 1).toNat (0 : Int)).length = (a + 1).toNat := List.length_replicate
  go_upto_region 5 with (first
   | (go_at_call 67; refine hns.mono ?_; rintro e w5 ⟨g5, R5, cv5, rfl, hS5⟩; clear hns; have HS5 := Aside0.mk hS5; have HK5 := Aside0.mk (blk_below HK4.out hS5.base); have HB5 := Aside0.mk (HB4.out.trans (hS5.base.mono HB4.out.size)); have hgo := goOn_any a A0 c0 l w b (a + 1).toNat HR.out (by have := HOK.out.2.1; omega) (by have := HOK.out.1; omega) HOK.out.2.2 HBB.out k 43 g5 R5 cv5 _ (.slice none 0 0) [] (.slice none 0 0) [] (fun k_ => k_ ≠ R5) code st w5 hzl (fun x hx => by simp at hx) (hS5.older HB4.out) HK5.out (Kd.R_nil _ _ _ _ _) (Kd.S_nil _ _ _ _ _) (fun _ hk => hk) HGO.out; clear hS5)
   | (go_at_call 80; refine hgo.mono ?_; rintro e w6 ⟨rfl, v6, bx6, hs6, -, hb6, -⟩; clear hgo; have BX6 := Aside0.mk bx6; have HS6 := Aside0.mk (Kd.S_mono (ok' := fun _ => True) hs6 (fun _ _ => trivial)); have HB6 := Aside0.mk hb6; clear bx6 hs6 hb6))
  clear x0 x1
  by_cases hc : code = 0
  ·rw [if_pos hc] at h
   cases h
   subst hc
   obtain ⟨A6, c6, e6⟩ := Kd.S_slice HS6.out
   subst e6
   have x2 := (blk_cell BX6.out 2).trans (show _ = some (.slice A6 r1.length c6) from rfl)
   go_wp2
   go_ret2
   exact ⟨_, rfl, HS6.out, HB6.out⟩
  ·rw [if_neg hc] at h
   cases h
   have t9 : (r2 == 0) = false := beq_eq_false_iff_ne.mpr hc
   clear hc
   go_wp2
   go_ret2
   exact ⟨_, rfl, Kd.S_nil _ _ _ _ _, HB6.out⟩
def markSTv : Nat → List S68 → Int → Nat → Option (Int × List S68)
 | 0, _, _, _ => none
 | n + 1, ys, b, kk => if kk < ys.length then (laws_markIntS.f ((ys.getD kk z68).f1.length + 1) (ys.getD kk z68).f1 (wrap64 (b + 1))).bind fun p => if p.2.length = (ys.getD kk z68).f1.length then markSTv n (ys.set kk ⟨(Int.tmod b 3) == 0, p.2⟩) p.1 (kk + 1) else none else some (b, ys)
def WRs (w0 : World) (g : Nat) (f : Nat → Nat) (vs : Nat → Value) (P : Nat → Prop) (l : List S68) (V : World) : Prop :=
 ∃ cells : Array Value, V.heap[g]? = some (.cells cells 68 (0, 0)) ∧ ∀ j : Nat, j < l.length → cells[j * 2]? = some (.bool (l.getD j z68).f0) ∧ cells[j * 2 + 1]? = some (vs j) ∧ (∃ A c, vs j = .slice A (l.getD j z68).f1.length c) ∧ Kd.R (Kd.int .i64) 3 V w0.heap.size (fun k => (P k ∧ k ≠ g) ∧ f k = j) (vs j) (l.getD j z68).f1
theorem WRs.of {w0 V : World} {P : Nat → Prop} {g n cap : Nat} {l : List S68} (h : Kd.S k68 68 V w0.heap.size P (.slice (some ⟨g, 0, none⟩) n cap) l) (hp : 0 < l.length) : ∃ f vs, WRs w0 g f vs P l V := by
 obtain ⟨q, cap', eq_, -, -, cells, hcells⟩ := Kd.S_form h hp
 cases eq_
 obtain ⟨f, HR⟩ := h
 have key : ∀ j : Nat, ∃ v, j < l.length → cells[j * 2]? = some (.bool (l.getD j z68).f0) ∧ cells[j * 2 + 1]? = some v ∧ (∃ A c, v = .slice A (l.getD j z68).f1.length c) ∧ Kd.R (Kd.int .i64) 3 V w0.heap.size (fun k => (P k ∧ k ≠ g) ∧ f k = j) v (l.getD j z68).f1 := by
  intro j
  by_cases hj : j < l.length
  ·obtain ⟨c, hc, hM, hcell, _⟩ := Kd.R_elem HR ((z68, 0) : S68 × Nat) (j : Int) (by omega) (by omega)
   rw [Int.toNat_natCast] at hM hcell
   have he : l.zipIdx.getD j ((z68, 0) : S68 × Nat) = (l.getD j z68, j) := by
    rw [List.getD_eq_getElem?_getD, List.getElem?_zipIdx, List.getElem?_eq_getElem hj, Nat.zero_add, List.getD_eq_getElem?_getD, List.getElem?_eq_getElem hj]
    rfl
   rw [he] at hM
   obtain ⟨v, rfl, hR⟩ := k68_openM hM
   obtain ⟨A, cc, ev⟩ := Kd.R_slice hR
   refine ⟨v, fun _ => ⟨?_, ?_, ⟨A, cc, ev⟩, hR⟩⟩
   ·exact (blk_cell hcells (j * 2)).symm.trans (hcell 0 _ rfl)
   ·exact (blk_cell hcells (j * 2 + 1)).symm.trans (hcell 1 _ rfl)
  ·exact ⟨undef, fun h => absurd h hj⟩
 exact ⟨f, fun j => (key j).choose, cells, hcells, fun j hj => (key j).choose_spec hj⟩
theorem getD_set {l : List S68} {i j : Nat} {x : S68} (hi : i < l.length) : (l.set i x).getD j z68 = if j = i then x else l.getD j z68 := by
 by_cases e : j = i
 ·subst e
  rw [if_pos rfl, List.getD_eq_getElem?_getD, List.getElem?_set_self hi]
  rfl
 ·rw [if_neg e, List.getD_eq_getElem?_getD, List.getElem?_set_ne (fun h => e h.symm), ← List.getD_eq_getElem?_getD]
theorem WRs.flag {w0 V : World} {g : Nat} {f : Nat → Nat} {vs : Nat → Value} {P : Nat → Prop} {l : List S68} (h : WRs w0 g f vs P l V) (i : Nat) (hi : i < l.length) (b : Bool) : WRs w0 g f vs P (l.set i ⟨b, (l.getD i z68).f1⟩) (V.setCell ⟨g, i * 2, none⟩ (.bool b)) := by
 obtain ⟨cells, hb, h⟩ := h
 refine ⟨_, heap_set hb, fun j hj => ?_⟩
 rw [List.length_set] at hj
 obtain ⟨h1, h2, h3, h4⟩ := h j hj
 have hsz : i * 2 < cells.size := (Array.getElem?_eq_some_iff.1 (h i hi).1).1
 have hR : Kd.R (Kd.int .i64) 3 (V.setCell ⟨g, i * 2, none⟩ (.bool b)) w0.heap.size (fun k => (P k ∧ k ≠ g) ∧ f k = j) (vs j) (l.getD j z68).f1 := Kd.R_far (p := ⟨g, i * 2, none⟩) h4 (fun k hk => hk.1.2) _
 rw [getD_set hi]
 by_cases e : j = i
 ·subst e
  rw [if_pos rfl]
  refine ⟨?_, ?_, h3, hR⟩
  ·rw [Array.getElem?_setIfInBounds, if_pos rfl, if_pos hsz]
  ·rw [Array.getElem?_setIfInBounds, if_neg (by omega)]
   exact h2
 ·rw [if_neg e]
  refine ⟨?_, ?_, h3, hR⟩
  ·rw [Array.getElem?_setIfInBounds, if_neg (by omega)]
   exact h1
  ·rw [Array.getElem?_setIfInBounds, if_neg (by omega)]
   exact h2
theorem WRs.kept {w0 V V2 : World} {g : Nat} {f : Nat → Nat} {vs : Nat → Value} {P : Nat → Prop} {l : List S68} (h : WRs w0 g f vs P l V) (i : Nat) (hi : i < l.length) (xs : List Int) (hl : xs.length = (l.getD i z68).f1.length) (hk : Kept V V2 (fun k => (P k ∧ k ≠ g) ∧ f k = i)) (hR : Kd.R (Kd.int .i64) 3 V2 w0.heap.size (fun k => (P k ∧ k ≠ g) ∧ f k = i) (vs i) xs) : WRs w0 g f vs P (l.set i ⟨(l.getD i z68).f0, xs⟩) V2 := by
 obtain ⟨cells, hb, h⟩ := h
 refine ⟨cells, blk_kept hb hk (fun hg => hg.1.2 rfl), fun j hj => ?_⟩
 rw [List.length_set] at hj
 obtain ⟨h1, h2, h3, h4⟩ := h j hj
 rw [getD_set hi]
 by_cases e : j = i
 ·subst e
  rw [if_pos rfl]
  exact ⟨h1, h2, by rw [hl]; exact h3, hR⟩
 ·rw [if_neg e]
  exact ⟨h1, h2, h3, Kd.R_kept h4 hk (fun k hk1 hk2 => e (hk1.2.symm.trans hk2.2))⟩
theorem WRs.C {w0 V : World} {g : Nat} {f : Nat → Nat} {vs : Nat → Value} {P : Nat → Prop} {l : List S68} (h : WRs w0 g f vs P l V) (hm : l.length ≤ 9223372036854775807) : Kd.C k68 V (some ⟨g, 0, none⟩) l.length l := by
 obtain ⟨cells, hb, h⟩ := h
 refine ⟨rfl, hm, fun _ => ⟨_, rfl, fun j p hj => ?_⟩⟩
 have hlt : j < l.length := (List.getElem?_eq_some_iff.1 hj).1
 obtain ⟨h1, h2, _, h4⟩ := h j hlt
 have hp : l.getD j z68 = p := by rw [List.getD_eq_getElem?_getD, hj]; rfl
 rw [hp] at h1 h4
 obtain ⟨A, c, ev, hl, hC⟩ := Kd.R_reads h4
 refine ⟨[.bool p.f0, vs j], rfl, ⟨_, _, rfl, rfl, ⟨A, c, by rw [ev], hl, hC⟩⟩, fun i u hu => ?_⟩
 match i, hu with
 | 0, hu =>
  obtain rfl := Option.some.inj hu
  show V.cell? (Addr.add ⟨g, 0, none⟩ (j * 2 + 0)) = _
  rw [show (Addr.add ⟨g, 0, none⟩ (j * 2 + 0) : Addr) = ⟨g, j * 2, none⟩ from by rw [add_at]; simp, blk_cell hb]
  exact h1
 | 1, hu =>
  obtain rfl := Option.some.inj hu
  show V.cell? (Addr.add ⟨g, 0, none⟩ (j * 2 + 1)) = _
  rw [show (Addr.add ⟨g, 0, none⟩ (j * 2 + 1) : Addr) = ⟨g, j * 2 + 1, none⟩ from by rw [add_at]; simp, blk_cell hb]
  exact h2
 | i + 2, hu => simp at hu
set_option maxHeartbeats 1600000 in
set_option maxRecDepth 100000 in
theorem markST_val (n : Nat) (r1 : Int) (r2 : List S68) (P : Nat → Prop) (u : Value) (l : List S68) (a : Int) (w0 w : World) (hB : Below w0.heap.size w0 w) (hS : Kd.S k68 68 w w0.heap.size P u l) (h : markSTv n l a 0 = some (r1, r2)) :
  Calls Try.prog 40 #[u, .int .i64 a] w fun e w' => e = .returned (.int .i64 r1) ∧ (∃ A c, u = .slice A r2.length c ∧ r2.length ≤ c ∧ Kd.C k68 w' A r2.length r2) ∧ Below w0.heap.size w0 w' ∧ Kept w w' P := by
 obtain ⟨A, c, eu, hlc, hC⟩ := Kd.R_reads (Kd.S_R hS)
 subst eu
 have hmax : l.length ≤ 9223372036854775807 := Kd.C_max hC
 have hform : 0 < l.length → ∃ g, A = some ⟨g, 0, none⟩ ∧ w0.heap.size ≤ g ∧ P g := fun hp => by
  obtain ⟨g, cap, e, _⟩ := Kd.R_form (Kd.S_R hS) hp
  cases e
  exact ⟨g, rfl, Kd.S_base hS g rfl, (Kd.S_R hS).1 g rfl⟩
 obtain ⟨f, vs, hWR⟩ : ∃ f vs, ∀ g, A = some ⟨g, 0, none⟩ → 0 < l.length → WRs w0 g f vs P l w := by
  rcases Nat.eq_zero_or_pos l.length with hz | hp
  ·exact ⟨fun _ => 0, fun _ => undef, fun g e hj => by omega⟩
  ·obtain ⟨g, e, -⟩ := hform hp
   subst e
   obtain ⟨f, vs, h⟩ := WRs.of hS hp
   exact ⟨f, vs, fun g2 e2 _ => by cases e2; exact h⟩
 have HW := Aside0.mk hWR
 have HF := Aside0.mk hform
 have HLC := Aside0.mk hlc
 have HB := Aside0.mk hB
 have HK := Aside0.mk (Kept.refl w P)
 have H1 := Aside0.mk h
 clear hS hC hB hWR hform h hlc
 go_enter Try.func40, Try.ntmps40
 go_wp2
 go_loopg [1, 5] n (fun gg v1 v5 wr => ∃ (b : Int) (kk : Nat) (ys : List S68), v1 = .int .i64 b ∧ v5 = .int .i64 kk ∧ kk ≤ l.length ∧ ys.length = l.length ∧ Aside0 (markSTv gg ys b kk = some (r1, r2)) ∧ Aside0 (∀ g, A = some ⟨g, 0, none⟩ → 0 < l.length → WRs w0 g f vs P ys wr) ∧ Aside0 (Below w0.heap.size w0 wr) ∧ Aside0 (Kept w wr P))
 case atStart => exact ⟨a, 0, l, rfl, rfl, Nat.zero_le _, rfl, H1, HW, HB, HK⟩
 case round =>
  clear HW HB HK H1
  obtain ⟨b, kk, ys, rfl, rfl, hk, hyl, H1, HW, HB, HK⟩ := hrel
  have h1 := H1.out
  clear H1
  match gk, h1 with
  | 0, h1 => cases h1
  | gg + 1, h1 =>
  rw [markSTv] at h1
  by_cases hlt : kk < l.length
  ·have hltz : (kk : Int) < (l.length : Int) := by omega
   have h0z : (0 : Int) ≤ (kk : Int) := by omega
   rw [if_pos (by omega)] at h1
   replace h1 := Option.bind_eq_some_iff.1 h1
   obtain ⟨⟨b2, xs2⟩, hrun, h1⟩ := h1
   simp only at h1
   by_cases hxl : xs2.length = (ys.getD kk z68).f1.length
   ·rw [if_pos hxl] at h1
    obtain ⟨g, ea, hbg, hPg⟩ := HF.out (by omega)
    subst ea
    have hWR := HW.out g rfl (by omega)
    have HW1 := Aside0.mk (hWR.flag kk (by omega) ((Int.tmod b 3) == 0))
    obtain ⟨cells, hcs, hWj⟩ := hWR
    obtain ⟨hx0, hx1, -, -⟩ := hWj kk (by omega)
    have hcx0 := (blk_cell hcs (kk * 2)).trans hx0
    have hfx0 := blk_frozen hcs (kk * 2)
    have HB1 := Aside0.mk (HB.out.setCell (p := ⟨g, kk * 2, none⟩) hbg (.bool ((Int.tmod b 3) == 0)))
    have HK1 := Aside0.mk (HK.out.setCell (p := ⟨g, kk * 2, none⟩) (.inl hPg) (.bool ((Int.tmod b 3) == 0)))
    have ew : IntKind.i64.wrap ((kk : Int) + 1) = ((kk + 1 : Nat) : Int) := IntWalk.i64_in _ (by omega)
    have HXL := Aside0.mk hxl
    have H1 := Aside0.mk h1
    have HYL := Aside0.mk hyl
    have HRUN := Aside0.mk hrun
    clear hWj hx0 hx1 hcs h1 HW HB HK hxl hyl hrun hbg hPg
    go_upto_region 5 with fail
    generalize hws : wr.setCell ⟨g, kk * 2, none⟩ (.bool ((Int.tmod b 3) == 0)) = ws at HW1 HB1 HK1
    clear hcx0 hfx0 hws
    go_upto_region 6 with fail
    have hkl : kk < ys.length := by have := HYL.out; omega
    have hgd : (ys.set kk ⟨(Int.tmod b 3) == 0, (ys.getD kk z68).f1⟩).getD kk z68 = ⟨(Int.tmod b 3) == 0, (ys.getD kk z68).f1⟩ := by rw [getD_set hkl, if_pos rfl]
    have HGD := Aside0.mk hgd
    have HKL := Aside0.mk hkl
    obtain ⟨cells2, hcs2, hWj2⟩ := HW1.out
    obtain ⟨-, hx1, ⟨A2, c2, ev⟩, hR⟩ := hWj2 kk (by rw [List.length_set]; exact hkl)
    rw [hgd] at ev hR
    have hcall := laws_markIntS.calls ((ys.getD kk z68).f1.length + 1) (fun k => (P k ∧ k ≠ g) ∧ f k = kk) (vs kk) (ys.getD kk z68).f1 (wrap64 (b + 1)) b2 xs2 w0 ws HB1.out hR HRUN.out
    have hcx1 := (blk_cell hcs2 (kk * 2 + 1)).trans hx1
    have HR0 := Aside0.mk hR
    clear hWj2 hR hx1 hcs2 hgd hkl HRUN
    obtain ⟨n2, hn2⟩ : ∃ n2, (ys.getD kk z68).f1.length = n2 := ⟨_, rfl⟩
    simp only at ev
    rw [hn2] at ev
    have HEV := Aside0.mk ev
    rw [ev] at hcx1 hcall
    clear ev hn2
    go_wp2_with (go_at_call 27; refine hcall.mono ?_; rintro e w3 ⟨rfl, hR3, hB3, hK3⟩; clear hcall hcx1)
    have n1_ := Aside0.mk (fun (g2 : Nat) (e2 : some (⟨g, 0, none⟩ : Addr) = some ⟨g2, 0, none⟩) (_ : 0 < l.length) => show WRs w0 g2 f vs P (ys.set kk ⟨(Int.tmod b 3) == 0, xs2⟩) w3 from by
     cases e2
     have h9 := HW1.out.kept kk (by rw [List.length_set]; exact HKL.out) xs2 (by rw [HGD.out]; exact HXL.out) hK3 (by
      rw [HEV.out]
      refine Kd.R_reok rfl hR3 (fun k hk2 => ?_)
      have h4 := HR0.out
      rw [HEV.out] at h4
      exact h4.1 k hk2)
     rw [HGD.out, List.set_set] at h9
     exact h9)
    have n2_ := Aside0.mk (HK1.out.then_ hK3 (fun k hk2 => .inl hk2.1.1))
    have n3_ := Aside0.mk hB3
    clear hR3 hB3 hK3 HB1 HK1 HW1 HR0
    go_roundg gg
    case measure => omega
    case rel => exact ⟨b2, kk + 1, ys.set kk ⟨(Int.tmod b 3) == 0, xs2⟩, rfl, rfl, by omega, by rw [List.length_set]; exact HYL.out, H1, n1_, n3_, n2_⟩
   ·rw [if_neg hxl] at h1
    cases h1
  ·obtain rfl : kk = l.length := by omega
   rw [if_neg (by omega)] at h1
   obtain ⟨rfl, rfl⟩ := Prod.mk.inj (Option.some.inj h1)
   clear h1
   have HC := Aside0.mk (show ∃ A_ c_, Value.slice A l.length c = .slice A_ ys.length c_ ∧ ys.length ≤ c_ ∧ Kd.C k68 wr A_ ys.length ys from by
    refine ⟨A, c, by rw [hyl], by rw [hyl]; exact HLC.out, ?_⟩
    rcases Nat.eq_zero_or_pos l.length with hz | hp
    ·obtain rfl : ys = [] := List.length_eq_zero_iff.1 (by omega)
     exact ⟨rfl, by decide, fun h => absurd h (by decide)⟩
    ·obtain ⟨g, ea, -, -⟩ := HF.out hp
     subst ea
     exact (HW.out g rfl hp).C (by omega))
   go_wp2
   go_ret
   exact ⟨rfl, HC.out, HB.out, HK.out⟩
def laws_heldIntS.l0 : Nat → List Int → Int → Int → Option (Int)
 | 0, _, _, _ => none
 | k + 1, x0, x1, x5 => if x5 < (x0.length : Int) then (if 0 ≤ x5 then (if (rd x0 x5) = x1 then (laws_heldIntS.l0 k x0 (wrap64 (x1 + 1)) (wrap64 (x5 + 1))) else (some (-1))) else (none)) else (some x1)
def laws_heldIntS.f (k : Nat) (l0 : List Int) (a1 : Int) : Option (Int) := laws_heldIntS.l0 k l0 a1 0
set_option maxHeartbeats 8000000 in
set_option maxRecDepth 100000 in
theorem laws_heldIntS.calls (k : Nat) (A0 : Option Addr) (c0 : Nat) (l0 : List Int) (a1 : Int) (r : Int) (w : World) (hr0 : Kd.C (Kd.int .i64) w A0 l0.length l0) (hc0 : l0.length ≤ c0) (h : laws_heldIntS.f k l0 a1 = some r) :
  Calls Try.prog 28 #[.slice A0 l0.length c0, .int .i64 a1] w fun e w' => e = .returned (.int .i64 r) ∧ Drawn0 w w' := by
 have HR0 := Aside0.mk hr0
 have HC0 := Aside0.mk hc0
 clear hr0 hc0
 have H : (laws_heldIntS.l0 k l0 a1 0) = some r := h
 clear h
 have H' := Aside0.mk H
 clear H
 go_enter Try.func28, Try.ntmps28
 go_wp2
 go_loopg [1, 5] k (fun kq v1 v5 w' => ∃ (x1_1 : Int) (x5_1 : Int), v1 = .int .i64 x1_1 ∧ v5 = .int .i64 x5_1 ∧ Aside0 (laws_heldIntS.l0 kq l0 x1_1 x5_1 = some r) ∧ Aside0 (kq ≤ k) ∧ Drawn0 w w')
 case atStart => exact ⟨(a1), (0), (by first | rfl | (simp; done) | (simp [*]; done)), (by first | rfl | (simp; done) | (simp [*]; done)), H', ⟨Nat.le_refl _⟩, by repeat (first | exact Drawn0.refl _ | apply Drawn0.step)⟩
 case round =>
  clear H'
  try clear c2
  try clear p2
  obtain ⟨x1_1, x5_1, rfl, rfl, HA, HK1, ⟨m1, rfl⟩⟩ := hrel
  cases gk with
  | zero => exact absurd HA.out (by simp [laws_heldIntS.l0])
  | succ k1 =>
   have H := HA.out
   clear HA
   simp only [laws_heldIntS.l0] at H
   by_cases c3 : x5_1 < (l0.length : Int)
   ·rw [if_pos c3] at H
    have c3b0 : decide (x5_1 < (l0.length : Int)) = true := decide_eq_true c3
    clear c3
    by_cases c4 : 0 ≤ x5_1
    ·rw [if_pos c4] at H
     have c4b0 : decide (0 ≤ x5_1) = true := decide_eq_true c4
     clear c4
     by_cases c5 : (rd l0 x5_1) = x1_1
     ·rw [if_pos c5] at H
      have c5b0 : ((rd l0 x5_1) == x1_1) = true := beq_iff_eq.mpr c5
      have c5b1 : ((rd l0 x5_1) != x1_1) = false := bne_eq_false_iff_eq.mpr c5
      clear c5
      have H' := Aside0.mk H
      clear H
      have p166 : 0 ≤ (x5_1 : Int) := of_decide_eq_true (by first | (with_reducible assumption) | assumption)
      have q166 : x5_1 < (l0.length : Int) := of_decide_eq_true (by first | (with_reducible assumption) | assumption)
      obtain ⟨ad166, e166, hx166_0⟩ := Kd.at_int HR0.out x5_1 p166 q166
      cases e166
      replace p166 := eq_true p166
      replace q166 := eq_true q166
      go_wp2
      go_roundg k1
      case measure => have := HK1.out; omega
      case rel => exact ⟨(wrap64 (x1_1 + 1)), (wrap64 (x5_1 + 1)), (by first | rfl | (simp; done) | (simp [*]; done)), (by first | rfl | (simp; done) | (simp [*]; done)), H', ⟨by have := HK1.out; omega⟩, by repeat (first | exact Drawn0.refl _ | apply Drawn0.step)⟩
     ·rw [if_neg c5] at H
      have c5b0 : ((rd l0 x5_1) == x1_1) = false := beq_eq_false_iff_ne.mpr c5
      have c5b1 : ((rd l0 x5_1) != x1_1) = true := bne_iff_ne.mpr c5
      obtain rfl := Option.some.inj H
      have p166 : 0 ≤ (x5_1 : Int) := of_decide_eq_true (by first | (with_reducible assumption) | assumption)
      have q166 : x5_1 < (l0.length : Int) := of_decide_eq_true (by first | (with_reducible assumption) | assumption)
      obtain ⟨ad166, e166, hx166_0⟩ := Kd.at_int HR0.out x5_1 p166 q166
      cases e166
      replace p166 := eq_true p166
      replace q166 := eq_true q166
      go_wp2
      go_ret
      exact ⟨by first | rfl | (simp; done) | (simp [*]; done), by repeat (first | exact Drawn0.refl _ | apply Drawn0.step)⟩
    ·rw [if_neg c4] at H
     exact absurd H (by simp)
   ·rw [if_neg c3] at H
    have c3b0 : decide (x5_1 < (l0.length : Int)) = false := decide_eq_false c3
    clear c3
    obtain rfl := Option.some.inj H
    go_wp2
    go_ret
    exact ⟨by first | rfl | (simp; done) | (simp [*]; done), by repeat (first | exact Drawn0.refl _ | apply Drawn0.step)⟩
def laws_heldStepS.l0 : Nat → List (S68) → Int → Int → Option (Int)
 | 0, _, _, _ => none
 | k + 1, x0, x1, x5 => if x5 < (x0.length : Int) then (if 0 ≤ x5 then (if (((rd_T68 x0 x5).f0) != ((Int.tmod x1 3) == 0)) = true then (some (-1)) else ((laws_heldIntS.f k ((rd_T68 x0 x5).f1) (wrap64 (x1 + 1))).bind fun t169 => (if t169 < 0 then (some (-1)) else (laws_heldStepS.l0 k x0 t169 (wrap64 (x5 + 1)))))) else (none)) else (some x1)
def laws_heldStepS.f (k : Nat) (l0 : List (S68)) (a1 : Int) : Option (Int) := laws_heldStepS.l0 k l0 a1 0
set_option maxHeartbeats 8000000 in
set_option maxRecDepth 100000 in
theorem laws_heldStepS.calls (k : Nat) (A0 : Option Addr) (c0 : Nat) (l0 : List (S68)) (a1 : Int) (r : Int) (w : World) (hr0 : Kd.C k68 w A0 l0.length l0) (hc0 : l0.length ≤ c0) (h : laws_heldStepS.f k l0 a1 = some r) :
  Calls Try.prog 41 #[.slice A0 l0.length c0, .int .i64 a1] w fun e w' => e = .returned (.int .i64 r) ∧ Drawn0 w w' := by
 have HR0 := Aside0.mk hr0
 have HC0 := Aside0.mk hc0
 clear hr0 hc0
 have H : (laws_heldStepS.l0 k l0 a1 0) = some r := h
 clear h
 have H' := Aside0.mk H
 clear H
 go_enter Try.func41, Try.ntmps41
 go_wp2
 go_loopg [1, 5] k (fun kq v1 v5 w' => ∃ (x1_1 : Int) (x5_1 : Int), v1 = .int .i64 x1_1 ∧ v5 = .int .i64 x5_1 ∧ Aside0 (laws_heldStepS.l0 kq l0 x1_1 x5_1 = some r) ∧ Aside0 (kq ≤ k) ∧ Drawn0 w w')
 case atStart => exact ⟨(a1), (0), (by first | rfl | (simp; done) | (simp [*]; done)), (by first | rfl | (simp; done) | (simp [*]; done)), H', ⟨Nat.le_refl _⟩, by repeat (first | exact Drawn0.refl _ | apply Drawn0.step)⟩
 case round =>
  clear H'
  try clear p2
  obtain ⟨x1_1, x5_1, rfl, rfl, HA, HK1, ⟨m1, rfl⟩⟩ := hrel
  cases gk with
  | zero => exact absurd HA.out (by simp [laws_heldStepS.l0])
  | succ k1 =>
   have H := HA.out
   clear HA
   simp only [laws_heldStepS.l0] at H
   by_cases c3 : x5_1 < (l0.length : Int)
   ·rw [if_pos c3] at H
    have c3b0 : decide (x5_1 < (l0.length : Int)) = true := decide_eq_true c3
    clear c3
    by_cases c4 : 0 ≤ x5_1
    ·rw [if_pos c4] at H
     have c4b0 : decide (0 ≤ x5_1) = true := decide_eq_true c4
     clear c4
     by_cases c5 : (((rd_T68 l0 x5_1).f0) != ((Int.tmod x1_1 3) == 0)) = true
     ·rw [if_pos c5] at H
      have c5b0 : (((rd_T68 l0 x5_1).f0) != ((Int.tmod x1_1 3) == 0)) = true := c5
      (try (have c5b1 : decide (((rd_T68 l0 x5_1).f0) = ((Int.tmod x1_1 3) == 0)) = false := by simpa using c5))
      (try (have c5b2 : (((rd_T68 l0 x5_1).f0) == ((Int.tmod x1_1 3) == 0)) = false := by simpa using c5))
      (try (have c5b3 : ¬ (((rd_T68 l0 x5_1).f0) = ((Int.tmod x1_1 3) == 0)) := by simpa using c5))
      clear c5
      obtain rfl := Option.some.inj H
      have p167 : 0 ≤ (x5_1 : Int) := of_decide_eq_true (by first | (with_reducible assumption) | assumption)
      have q167 : x5_1 < (l0.length : Int) := of_decide_eq_true (by first | (with_reducible assumption) | assumption)
      obtain ⟨ad167, A167_1, c167_1, e167, hx167_0, hx167_1, hl167_1, hi167_1⟩ := at_T68 HR0.out x5_1 p167 q167
      cases e167
      have HR167_1 := Aside0.mk hi167_1
      have HC167_1 := Aside0.mk hl167_1
      clear hi167_1 hl167_1
      replace p167 := eq_true p167
      replace q167 := eq_true q167
      go_wp2
      go_ret
      exact ⟨by first | rfl | (simp; done) | (simp [*]; done), by repeat (first | exact Drawn0.refl _ | apply Drawn0.step)⟩
     ·rw [if_neg c5] at H
      have c5b0 : (((rd_T68 l0 x5_1).f0) != ((Int.tmod x1_1 3) == 0)) = false := by simpa using c5
      (try (have c5b1 : decide (((rd_T68 l0 x5_1).f0) = ((Int.tmod x1_1 3) == 0)) = true := by simpa using c5))
      (try (have c5b2 : (((rd_T68 l0 x5_1).f0) == ((Int.tmod x1_1 3) == 0)) = true := by simpa using c5))
      clear c5
      replace H := Option.bind_eq_some_iff.mp H
      obtain ⟨t169, A60, H⟩ := H
      replace H : (if t169 < 0 then (some (-1)) else (laws_heldStepS.l0 k1 l0 t169 (wrap64 (x5_1 + 1)))) = some r := H
      have A6 := Aside0.mk A60
      clear A60
      by_cases c7 : t169 < 0
      ·rw [if_pos c7] at H
       have c7b0 : decide (t169 < 0) = true := decide_eq_true c7
       clear c7
       obtain rfl := Option.some.inj H
       have p167 : 0 ≤ (x5_1 : Int) := of_decide_eq_true (by first | (with_reducible assumption) | assumption)
       have q167 : x5_1 < (l0.length : Int) := of_decide_eq_true (by first | (with_reducible assumption) | assumption)
       obtain ⟨ad167, A167_1, c167_1, e167, hx167_0, hx167_1, hl167_1, hi167_1⟩ := at_T68 HR0.out x5_1 p167 q167
       cases e167
       have HR167_1 := Aside0.mk hi167_1
       have HC167_1 := Aside0.mk hl167_1
       clear hi167_1 hl167_1
       replace p167 := eq_true p167
       replace q167 := eq_true q167
       have p168 : 0 ≤ (x5_1 : Int) := of_decide_eq_true (by first | (with_reducible assumption) | assumption)
       have q168 : x5_1 < (l0.length : Int) := of_decide_eq_true (by first | (with_reducible assumption) | assumption)
       obtain ⟨ad168, A168_1, c168_1, e168, hx168_0, hx168_1, hl168_1, hi168_1⟩ := at_T68 HR0.out x5_1 p168 q168
       obtain rfl : ad167 = ad168 := (by injection e168)
       have HR168_1 := Aside0.mk hi168_1
       have HC168_1 := Aside0.mk hl168_1
       clear hi168_1 hl168_1
       replace p168 := eq_true p168
       replace q168 := eq_true q168
       have ea_ := Option.some.inj (hx167_1.symm.trans hx168_1)
       injection ea_ with ea_ en_ ec_
       subst ea_
       subst ec_
       clear en_
       go_wp2_with (first | ((with_reducible refine gate_callee (f := 28) rfl ?_); refine goesL_ (some 29) rfl rfl Try.func28 (by kernel_rfl) rfl #[.slice A167_1 ((rd_T68 l0 x5_1).f1).length c167_1, .int .i64 (wrap64 (x1_1 + 1))] rfl (by (try simp only [List.map_toArray, List.map_cons, List.map_nil]); first | done | rfl | (simp only [List.length_drop, List.length_take]; rfl)) ?_; (with_reducible refine (laws_heldIntS.calls k1 _ _ ((rd_T68 l0 x5_1).f1) (wrap64 (x1_1 + 1)) t169 _ ?side1 ?side2 A6.out).mono ?_); (case side1 => repeat (first | exact HR168_1.out | (with_reducible refine Kd.C_alloc ?_ _) | (with_reducible refine Kd.C_drewN ?_ _) | (with_reducible refine Kd.C_drew ?_))); (case side2 => exact HC168_1.out); rintro e w' ⟨rfl, ⟨nd, rfl⟩⟩; refine ⟨_, rfl, ?_⟩))
       go_ret
       exact ⟨by first | rfl | (simp; done) | (simp [*]; done), by repeat (first | exact Drawn0.refl _ | apply Drawn0.step)⟩
      ·rw [if_neg c7] at H
       have c7b0 : decide (t169 < 0) = false := decide_eq_false c7
       clear c7
       have H' := Aside0.mk H
       clear H
       have p167 : 0 ≤ (x5_1 : Int) := of_decide_eq_true (by first | (with_reducible assumption) | assumption)
       have q167 : x5_1 < (l0.length : Int) := of_decide_eq_true (by first | (with_reducible assumption) | assumption)
       obtain ⟨ad167, A167_1, c167_1, e167, hx167_0, hx167_1, hl167_1, hi167_1⟩ := at_T68 HR0.out x5_1 p167 q167
       cases e167
       have HR167_1 := Aside0.mk hi167_1
       have HC167_1 := Aside0.mk hl167_1
       clear hi167_1 hl167_1
       replace p167 := eq_true p167
       replace q167 := eq_true q167
       have p168 : 0 ≤ (x5_1 : Int) := of_decide_eq_true (by first | (with_reducible assumption) | assumption)
       have q168 : x5_1 < (l0.length : Int) := of_decide_eq_true (by first | (with_reducible assumption) | assumption)
       obtain ⟨ad168, A168_1, c168_1, e168, hx168_0, hx168_1, hl168_1, hi168_1⟩ := at_T68 HR0.out x5_1 p168 q168
       obtain rfl : ad167 = ad168 := (by injection e168)
       have HR168_1 := Aside0.mk hi168_1
       have HC168_1 := Aside0.mk hl168_1
       clear hi168_1 hl168_1
       replace p168 := eq_true p168
       replace q168 := eq_true q168
       have ea_ := Option.some.inj (hx167_1.symm.trans hx168_1)
       injection ea_ with ea_ en_ ec_
       subst ea_
       subst ec_
       clear en_
       go_wp2_with (first | ((with_reducible refine gate_callee (f := 28) rfl ?_); refine goesL_ (some 29) rfl rfl Try.func28 (by kernel_rfl) rfl #[.slice A167_1 ((rd_T68 l0 x5_1).f1).length c167_1, .int .i64 (wrap64 (x1_1 + 1))] rfl (by (try simp only [List.map_toArray, List.map_cons, List.map_nil]); first | done | rfl | (simp only [List.length_drop, List.length_take]; rfl)) ?_; (with_reducible refine (laws_heldIntS.calls k1 _ _ ((rd_T68 l0 x5_1).f1) (wrap64 (x1_1 + 1)) t169 _ ?side1 ?side2 A6.out).mono ?_); (case side1 => repeat (first | exact HR168_1.out | (with_reducible refine Kd.C_alloc ?_ _) | (with_reducible refine Kd.C_drewN ?_ _) | (with_reducible refine Kd.C_drew ?_))); (case side2 => exact HC168_1.out); rintro e w' ⟨rfl, ⟨nd, rfl⟩⟩; refine ⟨_, rfl, ?_⟩))
       go_roundg k1
       case measure => have := HK1.out; omega
       case rel => exact ⟨(t169), (wrap64 (x5_1 + 1)), (by first | rfl | (simp; done) | (simp [*]; done)), (by first | rfl | (simp; done) | (simp [*]; done)), H', ⟨by have := HK1.out; omega⟩, by repeat (first | exact Drawn0.refl _ | apply Drawn0.step)⟩
    ·rw [if_neg c4] at H
     exact absurd H (by simp)
   ·rw [if_neg c3] at H
    have c3b0 : decide (x5_1 < (l0.length : Int)) = false := decide_eq_false c3
    clear c3
    obtain rfl := Option.some.inj H
    go_wp2
    go_ret
    exact ⟨by first | rfl | (simp; done) | (simp [*]; done), by repeat (first | exact Drawn0.refl _ | apply Drawn0.step)⟩
end Go.Proofs.Ytelfahcjeldliaa.PFnExactRefutation
end
section
namespace Go.Proofs.Ytelfahcjeldliaa.PFnExactRefutation
open Go.RowKit Go.Proofs.YtelfahcjeldliaaW.PrintWords Go.Proofs.YtelfahcjeldliaaW.PrintLast Go.Proofs.YtelfahcjeldliaaW.PrintMore
attribute [local go_sem] max2_int min2_int max_two min_two max_three min_three max_four min_four   -- for this text's walks alone
set_option linter.unusedVariables false
set_option linter.unusedSimpArgs false
def lawT_T : Bool × List (List Nat × List Nat) := (true, [([], []), ([], []), ([1], [1]), ([0, 2, 2], [0, 2]), ([3], [3])])
def lawT_B : List Nat := [0, 0, 2, 7, 15]
theorem lawT_tab : rtab .any (opsOf Try.f9 10) = lawT_T := by kernel_rfl
theorem lawT_bits : waitsOk lawT_T.2 lawT_B = true := by kernel_rfl
theorem box2 {t : Nat} {W wb : World} {gb : Nat} {a v : Value} (hg : gb = W.heap.size) (hbox : wb.heap[gb]? = some (.cells #[.int .i64 0, .slice none 0 0] t (0, 0))) (hb : Below W.heap.size W wb) : ((wb.setCell ⟨gb, 0, none⟩ a).setCell ⟨gb, 1, none⟩ v).heap[gb]? = some (.cells #[a, v] t (0, 0)) ∧ Below W.heap.size W ((wb.setCell ⟨gb, 0, none⟩ a).setCell ⟨gb, 1, none⟩ v) :=
 ⟨blk_put (cs := #[a, .slice none 0 0]) (blk_put hbox 0 a rfl) 1 v rfl, below_set (below_set hb (Nat.le_of_eq hg.symm)) (Nat.le_of_eq hg.symm)⟩
theorem heap_k68 : Kd.Heap k68 := Kd.heap_iso _ (Kd.heap_pair Kd.heap_bool (Kd.heap_slice 3 (Kd.heap_int .i64)))
theorem heldS_at (kf : Nat) (A7 : Option Addr) (c7 n : Nat) (A : Option Addr) (c : Nat) (m2 : List S68) (a r : Int) (w : World) (he : Value.slice A7 n c7 = .slice A m2.length c) (hl : m2.length ≤ c) (hC : Kd.C k68 w A m2.length m2) (h : laws_heldStepS.f kf m2 a = some r) : Calls Try.prog 41 #[.slice A7 n c7, .int .i64 a] w fun e w' => e = .returned (.int .i64 r) ∧ Below w.heap.size w w' := by
 rw [he]
 exact (laws_heldStepS.calls kf A c m2 a r w hC hl h).mono (fun e w' ⟨h1, h2⟩ => ⟨h1, h2.below⟩)
instance : DecidableEq S68 := fun a b => decidable_of_iff (a.f0 = b.f0 ∧ a.f1 = b.f1) ⟨fun h => by
 cases a
 cases b
 simp only at h
 rw [h.1, h.2], fun h => by rw [h]; exact ⟨rfl, rfl⟩⟩
def laws_FnExactRefutation.f (kf : Nat) (a0_0 : Int) (l0_1 : List (List Int)) : Option Bool :=
 (laws_szCnf.f kf a0_0 l0_1 1048576).bind fun t => if t < 0 then some true else
 (laws_toCnf.f kf a0_0 l0_1).bind fun (q1, x) => (spec_Refutation.f kf a0_0 x).bind fun (s1, s2) => (impl_Refutation.f kf a0_0 x).bind fun g => (laws_eqStepS.f kf s1 s1).bind fun b1 => (laws_eqCnf.f kf a0_0 x a0_0 x).bind fun b2 => (markSTv (s1.length + 1) s1 1 0).bind fun (m1, m2) => (laws_heldStepS.f kf m2 1).bind fun hh =>
 if a0_0 = q1 ∧ g = (s1, s2) ∧ b1 = true ∧ b2 = true ∧ m1 = hh ∧ 0 ≤ m1 ∧ sumL x ≤ 1048576 then some true else none
set_option maxHeartbeats 4000000 in
set_option maxRecDepth 100000 in
theorem laws_FnExactRefutation.calls (kf : Nat) (a0_0 : Int) (A0_1 : Option Addr) (c0_1 : Nat) (l0_1 : List (List Int)) (r : Bool) (w : World) (hr0_1 : Kd.C (Kd.slice 3 (Kd.int .i64)) w A0_1 l0_1.length l0_1) (hc0_1 : l0_1.length ≤ c0_1) (h : laws_FnExactRefutation.f kf a0_0 l0_1 = some r) :
  Calls Try.prog 9 #[.agg #[.int .i64 a0_0, .slice A0_1 l0_1.length c0_1]] w fun e w' => e = .returned (.bool r) ∧ Below w.heap.size w w' := by
 have hu24 := Try.underlying24
 have hu30 := Try.underlying30
 unfold laws_FnExactRefutation.f at h
 have hb1 : Below w.heap.size w (w.alloc (.cells #[.int .i64 a0_0, .slice A0_1 l0_1.length c0_1] 24)) := (Below.refl _ _).alloc (Nat.le_refl _) _
 have hW : (w.alloc (.cells #[.int .i64 a0_0, .slice A0_1 l0_1.length c0_1] 24)).heap[w.heap.size]? = some (.cells #[.int .i64 a0_0, .slice A0_1 l0_1.length c0_1] 24 (0, 0)) := by
  show (w.heap.push _)[w.heap.size]? = _
  simp
 obtain ⟨W1, hW1, BX, HB1⟩ : ∃ W1, w.alloc (.cells #[.int .i64 a0_0, .slice A0_1 l0_1.length c0_1] 24) = W1 ∧ W1.heap[w.heap.size]? = some (.cells #[.int .i64 a0_0, .slice A0_1 l0_1.length c0_1] 24 (0, 0)) ∧ Below w.heap.size w W1 := ⟨_, rfl, hW, hb1⟩
 have FA := Aside0.mk (foot_and (foot_blk (ok := fun k_ => k_ < W1.heap.size) BX (blk_lt BX)) (foot_C (Kd.heap_slice 3 (Kd.heap_int .i64)) (Kd.C_below hr0_1 HB1)))
 have HB := Aside0.mk HB1
 have HQ := Aside0.mk (Nat.le_refl W1.heap.size)
 have HW1 := Aside0.mk hW1
 clear hb1 hW hW1 BX HB1 hr0_1
 replace h := Option.bind_eq_some_iff.1 h
 obtain ⟨t, hsz, h⟩ := h
 by_cases ht : t < 0
 ·rw [if_pos ht] at h
  obtain rfl := Option.some.inj h
  clear h
  go_enter Try.func9, Try.ntmps9
  go_upto_region 2 with fail
  rw [HW1.out]
  clear HW1
  have hx0 := (blk_cell FA.out.now.1 0).trans (show _ = some (.int .i64 a0_0) from rfl)
  have hx1 := (blk_cell FA.out.now.1 1).trans (show _ = some (.slice A0_1 l0_1.length c0_1) from rfl)
  go_wp2_with (go_at_call 12; refine (laws_szCnf.calls kf a0_0 A0_1 c0_1 l0_1 1048576 t _ FA.out.now.2 hc0_1 hsz).mono ?_; rintro e w2 ⟨rfl, hb⟩)
  go_ret
  exact ⟨rfl, HB.out.trans (hb.mono HB.out.size)⟩
 rw [if_neg ht] at h
 replace h := Option.bind_eq_some_iff.1 h
 obtain ⟨⟨q1, x⟩, hto, h⟩ := h
 replace h := Option.bind_eq_some_iff.1 h
 obtain ⟨⟨s1, s2⟩, hsp, h⟩ := h
 replace h := Option.bind_eq_some_iff.1 h
 obtain ⟨g, him, h⟩ := h
 replace h := Option.bind_eq_some_iff.1 h
 obtain ⟨b1, heb, h⟩ := h
 replace h := Option.bind_eq_some_iff.1 h
 obtain ⟨b2, hec, h⟩ := h
 replace h := Option.bind_eq_some_iff.1 h
 obtain ⟨⟨m1, m2⟩, hmg, h⟩ := h
 replace h := Option.bind_eq_some_iff.1 h
 obtain ⟨hh, hhb, h⟩ := h
 try simp only at h
 by_cases hc : a0_0 = q1 ∧ g = (s1, s2) ∧ b1 = true ∧ b2 = true ∧ m1 = hh ∧ 0 ≤ m1 ∧ sumL x ≤ 1048576
 ·rw [if_pos hc] at h
  obtain ⟨rfl, rfl, rfl, rfl, rfl, hm0, hsm⟩ := hc
  have hsum : (1 : Int) + sumL x ≤ 2305843009213693952 := by omega
  clear hsm
  obtain rfl := Option.some.inj h
  clear h
  have hne : (s2 != s2) = false := by simp
  have hne2 : (m1 != m1) = false := by simp
  have hlt1 : ¬ (m1 < 0) := by omega
  go_enter Try.func9, Try.ntmps9
  go_upto_region 2 with fail
  rw [HW1.out]
  clear HW1
  have hx0 := (blk_cell FA.out.now.1 0).trans (show _ = some (.int .i64 a0_0) from rfl)
  have hx1 := (blk_cell FA.out.now.1 1).trans (show _ = some (.slice A0_1 l0_1.length c0_1) from rfl)
  go_upto_region 5 with (go_at_call 12; (with_reducible refine (laws_szCnf.calls kf a0_0 A0_1 c0_1 l0_1 1048576 t _ FA.out.now.2 hc0_1 hsz).mono ?_); rintro e w2 ⟨rfl, hb⟩; clear hx0 hx1; have mFA_ := Aside0.mk (foot_below FA.out hb); have mHB_ := Aside0.mk (HB.out.trans (hb.mono HB.out.size)); have mHQ_ := Aside0.mk (Nat.le_trans HQ.out hb.size); clear FA HB HQ; have FA := mFA_; have HB := mHB_; have HQ := mHQ_; clear mFA_ mHB_ mHQ_; have hx0 := (blk_cell FA.out.now.1 0).trans (show _ = some (.int .i64 a0_0) from rfl); have hx1 := (blk_cell FA.out.now.1 1).trans (show _ = some (.slice A0_1 l0_1.length c0_1) from rfl); clear hb)
  go_upto_region 6 with (first
   | (go_at_call 15; (with_reducible refine (laws_toCnf.calls kf a0_0 A0_1 c0_1 l0_1 a0_0 x _ FA.out.now.2 hc0_1 hto).mono ?_); rintro e w3 ⟨v3, rfl, hR3, hb⟩; clear hx0 hx1; have mFA_ := Aside0.mk (foot_below FA.out hb); have mHB_ := Aside0.mk (HB.out.trans (hb.mono HB.out.size)); have mHQ_ := Aside0.mk (Nat.le_trans HQ.out hb.size); clear FA HB HQ; have FA := mFA_; have HB := mHB_; have HQ := mHQ_; clear mFA_ mHB_ mHQ_; have hx0 := (blk_cell FA.out.now.1 0).trans (show _ = some (.int .i64 a0_0) from rfl); have hx1 := (blk_cell FA.out.now.1 1).trans (show _ = some (.slice A0_1 l0_1.length c0_1) from rfl); clear hb; obtain ⟨A3, c3, ev_, hl3, hC3⟩ := Kd.S_reads hR3; clear hR3; subst ev_)
   | (go_at_call 38; (with_reducible refine (spec_Refutation.calls kf a0_0 A3 c3 x s1 s2 _ hC3 hl3 hsp).mono ?_); rintro e w4 ⟨v4, rfl, hS4, hb⟩; clear hC3 hl3; clear hx0 hx1; have mFA_ := Aside0.mk (foot_below FA.out hb); have mHB_ := Aside0.mk (HB.out.trans (hb.mono HB.out.size)); have mHQ_ := Aside0.mk (Nat.le_trans HQ.out hb.size); clear FA HB HQ; have FA := mFA_; have HB := mHB_; have HQ := mHQ_; clear mFA_ mHB_ mHQ_; have hx0 := (blk_cell FA.out.now.1 0).trans (show _ = some (.int .i64 a0_0) from rfl); have hx1 := (blk_cell FA.out.now.1 1).trans (show _ = some (.slice A0_1 l0_1.length c0_1) from rfl); clear hb; obtain ⟨A4, c4, ev4, hl4, hC4⟩ := Kd.S_reads hS4; clear hS4; subst ev4; have FW := Aside0.mk (foot_C heap_k68 hC4); have HL4 := Aside0.mk hl4; have H14 := Aside0.mk HQ.out; clear hC4 hl4))
  go_upto_region 7 with (first
   | (go_at_call 15; (with_reducible refine (laws_toCnf.calls kf a0_0 A0_1 c0_1 l0_1 a0_0 x _ FA.out.now.2 hc0_1 hto).mono ?_); rintro e w5 ⟨v5, rfl, hR5, hb⟩; have HX := Aside0.mk (foot_S (Kd.S_lower (Kd.S_mono (ok' := fun k_ => w4.heap.size ≤ k_ ∧ k_ < w5.heap.size) (Kd.S_bound hR5) (fun k_ hk_ => ⟨hk_.2.1, hk_.2.2.1⟩)) HB.out.size)); have H45 := Aside0.mk hb.size; clear hx0 hx1; have mFA_ := Aside0.mk (foot_below FA.out hb); have mFW_ := Aside0.mk (foot_below FW.out hb); have mHB_ := Aside0.mk (HB.out.trans (hb.mono HB.out.size)); have mHQ_ := Aside0.mk (Nat.le_trans HQ.out hb.size); clear FA FW HB HQ; have FA := mFA_; have FW := mFW_; have HB := mHB_; have HQ := mHQ_; clear mFA_ mFW_ mHB_ mHQ_; have hx0 := (blk_cell FA.out.now.1 0).trans (show _ = some (.int .i64 a0_0) from rfl); have hx1 := (blk_cell FA.out.now.1 1).trans (show _ = some (.slice A0_1 l0_1.length c0_1) from rfl); clear hb; obtain ⟨A5, c5, ev5⟩ := Kd.S_slice hR5; clear hR5; subst ev5)
   | ((with_reducible refine gate_dst (N := 6) rfl ?_); refine box_event ?hg (N := 6) ?hd (cs := #[.int .i64 0, .slice none 0 0]) (t := 30) ?hr ?_; (case hd => rfl); (case hg => rfl); (case hr => first | (go_simp; done) | (go_simp; rfl)); intro gb5 hgw wb5 hbox hbb; have hcz0 := (blk_cell hbox 0).trans (show _ = some (.int .i64 0) from rfl); have hcz1 := (blk_cell hbox 1).trans (show _ = some (.slice none 0 0) from rfl); have hfz0 := blk_frozen hbox 0; have hfz1 := blk_frozen hbox 1; have hgw_ := Aside0.mk hgw; clear hgw; have hgw := hgw_; clear hgw_)
   | ((with_reducible refine gate_store (t := 30) (p := 6) rfl ?_); refine store_event (t := 30) (p := 6) (v := ?vo_6) (w1 := (wb5.setCell ⟨gb5, 0, none⟩ (.int .i64 a0_0)).setCell ⟨gb5, 1, none⟩ (.slice A5 x.length c5)) ?hg ?ho ?hn ?hr ?_; (case ho => rfl); (case hg => rfl); (case hn => rfl); (case hr => first | (go_simp; done) | (go_simp; rfl)); clear hcz0 hcz1 hfz0 hfz1; intro w6 hw_; obtain ⟨hbk, hb⟩ := box2 (t := 30) (a := .int .i64 a0_0) (v := .slice A5 x.length c5) hgw.out hbox hbb; rw [← hw_] at hbk hb; clear hw_ hbox hbb; clear hx0 hx1; have mFA_ := Aside0.mk (foot_below FA.out hb); have mFW_ := Aside0.mk (foot_below FW.out hb); have mHX_ := Aside0.mk (foot_below HX.out hb); have mHB_ := Aside0.mk (HB.out.trans (hb.mono HB.out.size)); have mHQ_ := Aside0.mk (Nat.le_trans HQ.out hb.size); clear FA FW HX HB HQ; have FA := mFA_; have FW := mFW_; have HX := mHX_; have HB := mHB_; have HQ := mHQ_; clear mFA_ mFW_ mHX_ mHB_ mHQ_; have hx0 := (blk_cell FA.out.now.1 0).trans (show _ = some (.int .i64 a0_0) from rfl); have hx1 := (blk_cell FA.out.now.1 1).trans (show _ = some (.slice A0_1 l0_1.length c0_1) from rfl); have HXB := Aside0.mk (foot_blk (ok := fun k_ => k_ = gb5) hbk rfl); have HG5 := Aside0.mk (hgw.out); have H56 := Aside0.mk (blk_lt hbk); have H56b := Aside0.mk hb.size; clear hgw hb hbk))
  have hy0 := (blk_cell HXB.out.now 0).trans (show _ = some (.int .i64 a0_0) from rfl)
  have hy1 := (blk_cell HXB.out.now 1).trans (show _ = some (.slice A5 x.length c5) from rfl)
  go_upto_region 8 with (go_at_call 39; (with_reducible refine (impl_Refutation.calls kf a0_0 A5 c5 x s1 s2 _ (Kd.S_reads' HX.out.now).2.2 (Kd.S_reads' HX.out.now).2.1 him).mono ?_); rintro e w7 ⟨v7, rfl, hS7, hb⟩; have HG := Aside0.mk (foot_S (Kd.S_lower (Kd.S_mono (ok' := fun k_ => w6.heap.size ≤ k_ ∧ k_ < w7.heap.size) (Kd.S_bound hS7) (fun k_ hk_ => ⟨hk_.2.1, hk_.2.2.1⟩)) HB.out.size)); have H67 := Aside0.mk hb.size; clear hx0 hx1 hy0 hy1; have mFA_ := Aside0.mk (foot_below FA.out hb); have mFW_ := Aside0.mk (foot_below FW.out hb); have mHX_ := Aside0.mk (foot_below HX.out hb); have mHXB_ := Aside0.mk (foot_below HXB.out hb); have mHB_ := Aside0.mk (HB.out.trans (hb.mono HB.out.size)); have mHQ_ := Aside0.mk (Nat.le_trans HQ.out hb.size); clear FA FW HX HXB HB HQ; have FA := mFA_; have FW := mFW_; have HX := mHX_; have HXB := mHXB_; have HB := mHB_; have HQ := mHQ_; clear mFA_ mFW_ mHX_ mHXB_ mHB_ mHQ_; have hx0 := (blk_cell FA.out.now.1 0).trans (show _ = some (.int .i64 a0_0) from rfl); have hx1 := (blk_cell FA.out.now.1 1).trans (show _ = some (.slice A0_1 l0_1.length c0_1) from rfl); have hy0 := (blk_cell HXB.out.now 0).trans (show _ = some (.int .i64 a0_0) from rfl); have hy1 := (blk_cell HXB.out.now 1).trans (show _ = some (.slice A5 x.length c5) from rfl); clear hb; obtain ⟨A7, c7, ev7⟩ := Kd.S_slice hS7; clear hS7; subst ev7)
  go_upto_region 10 with (go_at_call 19; (with_reducible refine (laws_eqStepS.calls kf A7 c7 s1 A4 c4 s1 true _ (Kd.S_reads' HG.out.now).2.2 (Kd.S_reads' HG.out.now).2.1 FW.out.now HL4.out heb).mono ?_); rintro e w9 ⟨rfl, hb⟩; clear hx0 hx1 hy0 hy1; have mFA_ := Aside0.mk (foot_below FA.out hb); have mFW_ := Aside0.mk (foot_below FW.out hb); have mHX_ := Aside0.mk (foot_below HX.out hb); have mHXB_ := Aside0.mk (foot_below HXB.out hb); have mHG_ := Aside0.mk (foot_below HG.out hb); have mHB_ := Aside0.mk (HB.out.trans (hb.mono HB.out.size)); have mHQ_ := Aside0.mk (Nat.le_trans HQ.out hb.size); clear FA FW HX HXB HG HB HQ; have FA := mFA_; have FW := mFW_; have HX := mHX_; have HXB := mHXB_; have HG := mHG_; have HB := mHB_; have HQ := mHQ_; clear mFA_ mFW_ mHX_ mHXB_ mHG_ mHB_ mHQ_; have hx0 := (blk_cell FA.out.now.1 0).trans (show _ = some (.int .i64 a0_0) from rfl); have hx1 := (blk_cell FA.out.now.1 1).trans (show _ = some (.slice A0_1 l0_1.length c0_1) from rfl); have hy0 := (blk_cell HXB.out.now 0).trans (show _ = some (.int .i64 a0_0) from rfl); have hy1 := (blk_cell HXB.out.now 1).trans (show _ = some (.slice A5 x.length c5) from rfl); clear hb)
  have hbd := below_drew (Below.refl w9.heap.size w9)
  clear hx0 hx1 hy0 hy1
  have mFA_ := Aside0.mk (foot_below FA.out hbd)
  have mFW_ := Aside0.mk (foot_below FW.out hbd)
  have mHX_ := Aside0.mk (foot_below HX.out hbd)
  have mHXB_ := Aside0.mk (foot_below HXB.out hbd)
  have mHG_ := Aside0.mk (foot_below HG.out hbd)
  have mHB_ := Aside0.mk (HB.out.trans (hbd.mono HB.out.size))
  have mHQ_ := Aside0.mk (Nat.le_trans HQ.out hbd.size)
  clear FA FW HX HXB HG HB HQ
  have FA := mFA_
  have FW := mFW_
  have HX := mHX_
  have HXB := mHXB_
  have HG := mHG_
  have HB := mHB_
  have HQ := mHQ_
  clear mFA_ mFW_ mHX_ mHXB_ mHG_ mHB_ mHQ_
  have hx0 := (blk_cell FA.out.now.1 0).trans (show _ = some (.int .i64 a0_0) from rfl)
  have hx1 := (blk_cell FA.out.now.1 1).trans (show _ = some (.slice A0_1 l0_1.length c0_1) from rfl)
  have hy0 := (blk_cell HXB.out.now 0).trans (show _ = some (.int .i64 a0_0) from rfl)
  have hy1 := (blk_cell HXB.out.now 1).trans (show _ = some (.slice A5 x.length c5) from rfl)
  clear hbd
  generalize hw9 : w9.drew = w10 at *
  refine start_ (n := 5) (S := fun w' => w'.cell? ⟨w.heap.size, 0, none⟩ = some (.int .i64 a0_0) ∧ w'.cell? ⟨w.heap.size, 1, none⟩ = some (.slice A0_1 l0_1.length c0_1) ∧ w'.cell? ⟨gb5, 0, none⟩ = some (.int .i64 a0_0) ∧ w'.cell? ⟨gb5, 1, none⟩ = some (.slice A5 x.length c5)) (ds := []) #[false, false, false, false, false] (by kernel_rfl) rfl rfl (by rw [hw9]; exact ⟨hx0, hx1, hy0, hy1⟩) (fun hHeld => ?_)
  refine with_tabW lawT_tab lawT_bits (fun HT_ HW_ => ?_)
  rw [hw9] at hHeld ⊢
  clear hw9
  refine take_ (i := 0) (N := some 41) (v := ?_) (a' := ?_) #[true, false, false, false, false] rfl rfl (take_ofW HT_.out HW_.out (by kernel_rfl)) (fun _ _ _ h => h) (Or.inl ⟨by rfl, ?_⟩) hHeld ?_ ?_
  rotate_left
  ·rintro w' ⟨s0, s1, s2, s3⟩
   go_simp
   with_reducible rfl
  rotate_left
  ·simp only [Act.put, List.setIfInBounds_toArray, List.set_cons_zero, List.set_cons_succ, i64_w, i32_w]
   rfl
  refine take_ (i := 1) (N := some 42) (v := ?_) (a' := ?_) #[true, true, false, false, false] rfl rfl (take_ofW HT_.out HW_.out (by kernel_rfl)) (fun _ _ _ h => h) (Or.inl ⟨by rfl, ?_⟩) hHeld ?_ ?_
  rotate_left
  ·rintro w' ⟨s0, s1, s2, s3⟩
   go_simp
   with_reducible rfl
  rotate_left
  ·simp only [Act.put, List.setIfInBounds_toArray, List.set_cons_zero, List.set_cons_succ, i64_w, i32_w]
   rfl
  refine one_ (i := 2) (N := some 43) #[true, true, true, false, false] rfl rfl (one_of HT_.out (by kernel_rfl)) (by decide) (fun K hK => ?_)
  refine call_ 15 #[.agg #[.int .i64 a0_0, .slice A0_1 l0_1.length c0_1]] (by rfl) rfl ?hrun2 ?h2
  case hrun2 =>
   have he := enters_of Try.func15 (by kernel_rfl) rfl
   unfold execOp
   simp [resolve, Deferred.ofValue, invoke, Act.eval, he]
  refine (laws_toCnf.calls kf a0_0 A0_1 c0_1 l0_1 a0_0 x _ FA.out.now.2 hc0_1 hto).mono ?_
  rintro e w11 ⟨v10, rfl, hR10, hb⟩
  refine ⟨_, rfl, ?_⟩
  clear hx0 hx1 hy0 hy1
  have mFA_ := Aside0.mk (foot_below FA.out hb)
  have mFW_ := Aside0.mk (foot_below FW.out hb)
  have mHX_ := Aside0.mk (foot_below HX.out hb)
  have mHXB_ := Aside0.mk (foot_below HXB.out hb)
  have mHG_ := Aside0.mk (foot_below HG.out hb)
  have mHB_ := Aside0.mk (HB.out.trans (hb.mono HB.out.size))
  have mHQ_ := Aside0.mk (Nat.le_trans HQ.out hb.size)
  clear FA FW HX HXB HG HB HQ
  have FA := mFA_
  have FW := mFW_
  have HX := mHX_
  have HXB := mHXB_
  have HG := mHG_
  have HB := mHB_
  have HQ := mHQ_
  clear mFA_ mFW_ mHX_ mHXB_ mHG_ mHB_ mHQ_
  have hx0 := (blk_cell FA.out.now.1 0).trans (show _ = some (.int .i64 a0_0) from rfl)
  have hx1 := (blk_cell FA.out.now.1 1).trans (show _ = some (.slice A0_1 l0_1.length c0_1) from rfl)
  have hy0 := (blk_cell HXB.out.now 0).trans (show _ = some (.int .i64 a0_0) from rfl)
  have hy1 := (blk_cell HXB.out.now 1).trans (show _ = some (.slice A5 x.length c5) from rfl)
  clear hb
  obtain ⟨A10, c10, ev_, hl10, hC10⟩ := Kd.S_reads hR10
  clear hR10
  subst ev_
  refine hK.out _ _ ⟨hx0, hx1, hy0, hy1⟩ (fun hHeld => ?_)
  clear hK K
  refine norm_ (a' := ?_) ?_ ?_
  rotate_left
  ·show Act.put _ (some 43) _ = _
   simp only [Act.put, List.setIfInBounds_toArray, List.set_cons_zero, List.set_cons_succ, i64_w, i32_w]
   rfl
  refine one_ (i := 3) (N := some 44) #[true, true, true, true, false] rfl rfl (one_of HT_.out (by kernel_rfl)) (by decide) (fun K hK => ?_)
  refine call_ 18 #[.agg #[.int .i64 a0_0, .slice A5 x.length c5], .agg #[.int .i64 a0_0, .slice A10 x.length c10]] (by rfl) rfl ?hrun3 ?h3
  case hrun3 =>
   have he := enters_of Try.func18 (by kernel_rfl) rfl
   unfold execOp
   simp [resolve, Deferred.ofValue, invoke, Act.eval, he]
  refine (laws_eqCnf.calls kf a0_0 A5 c5 x a0_0 A10 c10 x true _ (Kd.S_reads' HX.out.now).2.2 (Kd.S_reads' HX.out.now).2.1 hC10 hl10 hec).mono ?_
  rintro e w12 ⟨rfl, hb⟩
  refine ⟨_, rfl, ?_⟩
  clear hC10 hl10
  clear hx0 hx1 hy0 hy1
  have mFA_ := Aside0.mk (foot_below FA.out hb)
  have mFW_ := Aside0.mk (foot_below FW.out hb)
  have mHX_ := Aside0.mk (foot_below HX.out hb)
  have mHXB_ := Aside0.mk (foot_below HXB.out hb)
  have mHG_ := Aside0.mk (foot_below HG.out hb)
  have mHB_ := Aside0.mk (HB.out.trans (hb.mono HB.out.size))
  have mHQ_ := Aside0.mk (Nat.le_trans HQ.out hb.size)
  clear FA FW HX HXB HG HB HQ
  have FA := mFA_
  have FW := mFW_
  have HX := mHX_
  have HXB := mHXB_
  have HG := mHG_
  have HB := mHB_
  have HQ := mHQ_
  clear mFA_ mFW_ mHX_ mHXB_ mHG_ mHB_ mHQ_
  have hx0 := (blk_cell FA.out.now.1 0).trans (show _ = some (.int .i64 a0_0) from rfl)
  have hx1 := (blk_cell FA.out.now.1 1).trans (show _ = some (.slice A0_1 l0_1.length c0_1) from rfl)
  have hy0 := (blk_cell HXB.out.now 0).trans (show _ = some (.int .i64 a0_0) from rfl)
  have hy1 := (blk_cell HXB.out.now 1).trans (show _ = some (.slice A5 x.length c5) from rfl)
  clear hb
  refine hK.out _ _ ⟨hx0, hx1, hy0, hy1⟩ (fun hHeld => ?_)
  clear hK K
  refine norm_ (a' := ?_) ?_ ?_
  rotate_left
  ·show Act.put _ (some 44) _ = _
   simp only [Act.put, List.setIfInBounds_toArray, List.set_cons_zero, List.set_cons_succ, i64_w, i32_w]
   rfl
  refine pure_ (i := 4) (N := some 45) (v := ?_) (a' := ?_) #[true, true, true, true, true] rfl rfl (any_of HT_.out (by kernel_rfl)) (fun _ _ _ h => h) (Or.inl ⟨by rfl, ?_⟩) ?_ ?_
  rotate_left
  ·intro w'
   go_simp
   with_reducible rfl
  rotate_left
  ·simp only [Act.put, List.setIfInBounds_toArray, List.set_cons_zero, List.set_cons_succ, i64_w, i32_w]
   rfl
  refine done_ (done_of HT_.out (by kernel_rfl)) ?_
  clear hHeld HT_ HW_
  go_upto_region 13 with fail
  go_upto_region 14 with (go_at_call 26; (with_reducible refine (markCnf_any (fun k_ => w4.heap.size ≤ k_ ∧ k_ < w5.heap.size) (.slice A5 x.length c5) x a0_0 1 w _ HB.out HX.out.now (by decide) hsum).mono ?_); rintro e w13 ⟨⟨p1, rfl, hp0, -⟩, hbB, hbK⟩; clear HX; have hlt2 : ¬ (p1 < 0) := (by omega); clear hp0; clear hx0 hx1 hy0 hy1; have mFA_ := Aside0.mk (foot_kept FA.out hbK (fun k_ hk_ hs_ => by have g1_ : k_ < W1.heap.size := hk_; have g2_ : w4.heap.size ≤ k_ ∧ k_ < w5.heap.size := hs_; have := H14.out; have := H45.out; have := HG5.out; have := H56.out; have := H67.out; omega)); have mFW_ := Aside0.mk (foot_kept FW.out hbK (fun k_ hk_ hs_ => by have g1_ : k_ < w4.heap.size := hk_; have g2_ : w4.heap.size ≤ k_ ∧ k_ < w5.heap.size := hs_; have := H14.out; have := H45.out; have := HG5.out; have := H56.out; have := H67.out; omega)); have mHXB_ := Aside0.mk (foot_kept HXB.out hbK (fun k_ hk_ hs_ => by have g1_ : k_ = gb5 := hk_; have g2_ : w4.heap.size ≤ k_ ∧ k_ < w5.heap.size := hs_; have := H14.out; have := H45.out; have := HG5.out; have := H56.out; have := H67.out; omega)); have mHG_ := Aside0.mk (foot_kept HG.out hbK (fun k_ hk_ hs_ => by have g1_ : w6.heap.size ≤ k_ ∧ k_ < w7.heap.size := hk_; have g2_ : w4.heap.size ≤ k_ ∧ k_ < w5.heap.size := hs_; have := H14.out; have := H45.out; have := HG5.out; have := H56.out; have := H67.out; omega)); have mHB_ := Aside0.mk (hbB); have mHQ_ := Aside0.mk (Nat.le_trans HQ.out hbK.1); clear FA FW HXB HG HB HQ; have FA := mFA_; have FW := mFW_; have HXB := mHXB_; have HG := mHG_; have HB := mHB_; have HQ := mHQ_; clear mFA_ mFW_ mHXB_ mHG_ mHB_ mHQ_; have hx0 := (blk_cell FA.out.now.1 0).trans (show _ = some (.int .i64 a0_0) from rfl); have hx1 := (blk_cell FA.out.now.1 1).trans (show _ = some (.slice A0_1 l0_1.length c0_1) from rfl); have hy0 := (blk_cell HXB.out.now 0).trans (show _ = some (.int .i64 a0_0) from rfl); have hy1 := (blk_cell HXB.out.now 1).trans (show _ = some (.slice A5 x.length c5) from rfl); clear hbK hbB)
  go_upto_region 17 with (go_at_call 19; (with_reducible refine (laws_eqStepS.calls kf A7 c7 s1 A4 c4 s1 true _ (Kd.S_reads' HG.out.now).2.2 (Kd.S_reads' HG.out.now).2.1 FW.out.now HL4.out heb).mono ?_); rintro e w14 ⟨rfl, hb⟩; clear hx0 hx1 hy0 hy1; have mFA_ := Aside0.mk (foot_below FA.out hb); have mFW_ := Aside0.mk (foot_below FW.out hb); have mHXB_ := Aside0.mk (foot_below HXB.out hb); have mHG_ := Aside0.mk (foot_below HG.out hb); have mHB_ := Aside0.mk (HB.out.trans (hb.mono HB.out.size)); have mHQ_ := Aside0.mk (Nat.le_trans HQ.out hb.size); clear FA FW HXB HG HB HQ; have FA := mFA_; have FW := mFW_; have HXB := mHXB_; have HG := mHG_; have HB := mHB_; have HQ := mHQ_; clear mFA_ mFW_ mHXB_ mHG_ mHB_ mHQ_; have hx0 := (blk_cell FA.out.now.1 0).trans (show _ = some (.int .i64 a0_0) from rfl); have hx1 := (blk_cell FA.out.now.1 1).trans (show _ = some (.slice A0_1 l0_1.length c0_1) from rfl); have hy0 := (blk_cell HXB.out.now 0).trans (show _ = some (.int .i64 a0_0) from rfl); have hy1 := (blk_cell HXB.out.now 1).trans (show _ = some (.slice A5 x.length c5) from rfl); clear hb)
  go_upto_region 19 with (go_at_call 40; (with_reducible refine (markST_val (s1.length + 1) m1 m2 (fun k_ => w6.heap.size ≤ k_ ∧ k_ < w7.heap.size) (.slice A7 s1.length c7) s1 1 w _ HB.out HG.out.now hmg).mono ?_); rintro e w15 ⟨rfl, hC15, hbB, hbK⟩; obtain ⟨A15, c15, ev15, hl15, hC15⟩ := hC15; clear HG; clear hx0 hx1 hy0 hy1; have mFA_ := Aside0.mk (foot_kept FA.out hbK (fun k_ hk_ hs_ => by have g1_ : k_ < W1.heap.size := hk_; have g2_ : w6.heap.size ≤ k_ ∧ k_ < w7.heap.size := hs_; have := H14.out; have := H45.out; have := HG5.out; have := H56.out; have := H67.out; omega)); have mFW_ := Aside0.mk (foot_kept FW.out hbK (fun k_ hk_ hs_ => by have g1_ : k_ < w4.heap.size := hk_; have g2_ : w6.heap.size ≤ k_ ∧ k_ < w7.heap.size := hs_; have := H14.out; have := H45.out; have := HG5.out; have := H56.out; have := H67.out; omega)); have mHXB_ := Aside0.mk (foot_kept HXB.out hbK (fun k_ hk_ hs_ => by have g1_ : k_ = gb5 := hk_; have g2_ : w6.heap.size ≤ k_ ∧ k_ < w7.heap.size := hs_; have := H14.out; have := H45.out; have := HG5.out; have := H56.out; have := H67.out; omega)); have mHB_ := Aside0.mk (hbB); have mHQ_ := Aside0.mk (Nat.le_trans HQ.out hbK.1); clear FA FW HXB HB HQ; have FA := mFA_; have FW := mFW_; have HXB := mHXB_; have HB := mHB_; have HQ := mHQ_; clear mFA_ mFW_ mHXB_ mHB_ mHQ_; have hx0 := (blk_cell FA.out.now.1 0).trans (show _ = some (.int .i64 a0_0) from rfl); have hx1 := (blk_cell FA.out.now.1 1).trans (show _ = some (.slice A0_1 l0_1.length c0_1) from rfl); have hy0 := (blk_cell HXB.out.now 0).trans (show _ = some (.int .i64 a0_0) from rfl); have hy1 := (blk_cell HXB.out.now 1).trans (show _ = some (.slice A5 x.length c5) from rfl); have HM := Aside0.mk (foot_C heap_k68 hC15); have HLM := Aside0.mk hl15; have HEM := Aside0.mk ev15; clear hbK hbB hC15 hl15 ev15)
  go_upto_region 24 with (go_at_call 41; (with_reducible refine (heldS_at kf A7 c7 s1.length A15 c15 m2 1 m1 _ HEM.out HLM.out HM.out.now hhb).mono ?_); rintro e w16 ⟨rfl, hb⟩; clear hx0 hx1 hy0 hy1; have mFA_ := Aside0.mk (foot_below FA.out hb); have mFW_ := Aside0.mk (foot_below FW.out hb); have mHXB_ := Aside0.mk (foot_below HXB.out hb); have mHM_ := Aside0.mk (foot_below HM.out hb); have mHB_ := Aside0.mk (HB.out.trans (hb.mono HB.out.size)); have mHQ_ := Aside0.mk (Nat.le_trans HQ.out hb.size); clear FA FW HXB HM HB HQ; have FA := mFA_; have FW := mFW_; have HXB := mHXB_; have HM := mHM_; have HB := mHB_; have HQ := mHQ_; clear mFA_ mFW_ mHXB_ mHM_ mHB_ mHQ_; have hx0 := (blk_cell FA.out.now.1 0).trans (show _ = some (.int .i64 a0_0) from rfl); have hx1 := (blk_cell FA.out.now.1 1).trans (show _ = some (.slice A0_1 l0_1.length c0_1) from rfl); have hy0 := (blk_cell HXB.out.now 0).trans (show _ = some (.int .i64 a0_0) from rfl); have hy1 := (blk_cell HXB.out.now 1).trans (show _ = some (.slice A5 x.length c5) from rfl); clear hb)
  go_upto_region 25 with (first
   | (go_at_call 15; (with_reducible refine (laws_toCnf.calls kf a0_0 A0_1 c0_1 l0_1 a0_0 x _ FA.out.now.2 hc0_1 hto).mono ?_); rintro e w17 ⟨v17, rfl, hR17, hb⟩; clear hx0 hx1 hy0 hy1; have mFA_ := Aside0.mk (foot_below FA.out hb); have mFW_ := Aside0.mk (foot_below FW.out hb); have mHXB_ := Aside0.mk (foot_below HXB.out hb); have mHM_ := Aside0.mk (foot_below HM.out hb); have mHB_ := Aside0.mk (HB.out.trans (hb.mono HB.out.size)); have mHQ_ := Aside0.mk (Nat.le_trans HQ.out hb.size); clear FA FW HXB HM HB HQ; have FA := mFA_; have FW := mFW_; have HXB := mHXB_; have HM := mHM_; have HB := mHB_; have HQ := mHQ_; clear mFA_ mFW_ mHXB_ mHM_ mHB_ mHQ_; have hx0 := (blk_cell FA.out.now.1 0).trans (show _ = some (.int .i64 a0_0) from rfl); have hx1 := (blk_cell FA.out.now.1 1).trans (show _ = some (.slice A0_1 l0_1.length c0_1) from rfl); have hy0 := (blk_cell HXB.out.now 0).trans (show _ = some (.int .i64 a0_0) from rfl); have hy1 := (blk_cell HXB.out.now 1).trans (show _ = some (.slice A5 x.length c5) from rfl); clear hb; obtain ⟨A17, c17, ev_, hl17, hC17⟩ := Kd.S_reads hR17; clear hR17; subst ev_)
   | (go_at_call 39; (with_reducible refine (impl_Refutation.calls kf a0_0 A17 c17 x s1 s2 _ hC17 hl17 him).mono ?_); rintro e w18 ⟨v18, rfl, hS18, hb⟩; clear hC17 hl17; clear hx0 hx1 hy0 hy1; have mFA_ := Aside0.mk (foot_below FA.out hb); have mFW_ := Aside0.mk (foot_below FW.out hb); have mHXB_ := Aside0.mk (foot_below HXB.out hb); have mHM_ := Aside0.mk (foot_below HM.out hb); have mHB_ := Aside0.mk (HB.out.trans (hb.mono HB.out.size)); have mHQ_ := Aside0.mk (Nat.le_trans HQ.out hb.size); clear FA FW HXB HM HB HQ; have FA := mFA_; have FW := mFW_; have HXB := mHXB_; have HM := mHM_; have HB := mHB_; have HQ := mHQ_; clear mFA_ mFW_ mHXB_ mHM_ mHB_ mHQ_; have hx0 := (blk_cell FA.out.now.1 0).trans (show _ = some (.int .i64 a0_0) from rfl); have hx1 := (blk_cell FA.out.now.1 1).trans (show _ = some (.slice A0_1 l0_1.length c0_1) from rfl); have hy0 := (blk_cell HXB.out.now 0).trans (show _ = some (.int .i64 a0_0) from rfl); have hy1 := (blk_cell HXB.out.now 1).trans (show _ = some (.slice A5 x.length c5) from rfl); clear hb; obtain ⟨A8, c8, ev8, hl8, hC8⟩ := Kd.S_reads hS18; clear hS18; subst ev8; have HC8 := Aside0.mk hC8; have HL8 := Aside0.mk hl8; clear hC8 hl8))
  go_upto_region 28 with (go_at_call 19; (with_reducible refine (laws_eqStepS.calls kf A8 c8 s1 A4 c4 s1 true _ HC8.out HL8.out FW.out.now HL4.out heb).mono ?_); rintro e w20 ⟨rfl, hb⟩; clear HC8; clear hx0 hx1 hy0 hy1; have mFA_ := Aside0.mk (foot_below FA.out hb); have mFW_ := Aside0.mk (foot_below FW.out hb); have mHXB_ := Aside0.mk (foot_below HXB.out hb); have mHM_ := Aside0.mk (foot_below HM.out hb); have mHB_ := Aside0.mk (HB.out.trans (hb.mono HB.out.size)); have mHQ_ := Aside0.mk (Nat.le_trans HQ.out hb.size); clear FA FW HXB HM HB HQ; have FA := mFA_; have FW := mFW_; have HXB := mHXB_; have HM := mHM_; have HB := mHB_; have HQ := mHQ_; clear mFA_ mFW_ mHXB_ mHM_ mHB_ mHQ_; have hx0 := (blk_cell FA.out.now.1 0).trans (show _ = some (.int .i64 a0_0) from rfl); have hx1 := (blk_cell FA.out.now.1 1).trans (show _ = some (.slice A0_1 l0_1.length c0_1) from rfl); have hy0 := (blk_cell HXB.out.now 0).trans (show _ = some (.int .i64 a0_0) from rfl); have hy1 := (blk_cell HXB.out.now 1).trans (show _ = some (.slice A5 x.length c5) from rfl); clear hb)
  go_wp2_with (go_at_call 41; (with_reducible refine (heldS_at kf A7 c7 s1.length A15 c15 m2 1 m1 _ HEM.out HLM.out HM.out.now hhb).mono ?_); rintro e w21 ⟨rfl, hb⟩; clear hx0 hx1 hy0 hy1; have mFA_ := Aside0.mk (foot_below FA.out hb); have mFW_ := Aside0.mk (foot_below FW.out hb); have mHXB_ := Aside0.mk (foot_below HXB.out hb); have mHM_ := Aside0.mk (foot_below HM.out hb); have mHB_ := Aside0.mk (HB.out.trans (hb.mono HB.out.size)); have mHQ_ := Aside0.mk (Nat.le_trans HQ.out hb.size); clear FA FW HXB HM HB HQ; have FA := mFA_; have FW := mFW_; have HXB := mHXB_; have HM := mHM_; have HB := mHB_; have HQ := mHQ_; clear mFA_ mFW_ mHXB_ mHM_ mHB_ mHQ_; have hx0 := (blk_cell FA.out.now.1 0).trans (show _ = some (.int .i64 a0_0) from rfl); have hx1 := (blk_cell FA.out.now.1 1).trans (show _ = some (.slice A0_1 l0_1.length c0_1) from rfl); have hy0 := (blk_cell HXB.out.now 0).trans (show _ = some (.int .i64 a0_0) from rfl); have hy1 := (blk_cell HXB.out.now 1).trans (show _ = some (.slice A5 x.length c5) from rfl); clear hb)
  go_ret
  exact ⟨rfl, HB.out⟩
 ·rw [if_neg hc] at h
  cases h
end Go.Proofs.Ytelfahcjeldliaa.PFnExactRefutation
end
section
set_option linter.unusedVariables false
set_option linter.unusedSimpArgs false
namespace Go.Proofs.Ytelfahcjeldliaa.Reads
open Go.RowKit Go.ChangeShapes Go.WideShapes Go.Deep Go.Proofs.YtelfahcjeldliaaW.PrintWords
def ReadsN (P : Program) (n : Nat) (t : TypeId) {α : Type} (d : Kd α) (wf : α → Prop) : Prop :=
 ∀ (H : Type) (enc : TypeId × Value → H) (w : World) (base : Nat) (spare : Nat → Bool) (held : Bool) (cs : List Value) (x : DataW H × List MemPlace),
  DataW.trod enc P w base spare held n t cs = some x → (x.1.weights P t).all (· ≤ reachBytes) = true → ∃ a : α, d.K w a cs ∧ wf a
def Reads (P : Program) (t : TypeId) {α : Type} (d : Kd α) (wf : α → Prop) : Prop := ∀ n, ReadsN P n t d wf
theorem wf_i64 {z : Int} (h : (Lit.int .i64 z).wf = true) : -9223372036854775808 ≤ z ∧ z ≤ 9223372036854775807 := by
 simp only [Lit.wf, Bool.and_eq_true, decide_eq_true_eq] at h
 exact h
def WFI (z : Int) : Prop := -9223372036854775808 ≤ z ∧ z ≤ 9223372036854775807
def WFL {α : Type} (b : Nat) (wf : α → Prop) (l : List α) : Prop := l.length * b ≤ 140737488351232 ∧ ∀ x ∈ l, wf x
theorem int {P : Program} {n : Nat} {t : TypeId} (ht : P.underlying t = some (.int .i64)) : ReadsN P n t (Kd.int .i64) WFI := by
 intro H enc w base spare held cs x h _
 obtain ⟨z, rfl, rfl, hw⟩ := DataW.trod_int ht h
 exact ⟨z, rfl, wf_i64 hw⟩
theorem all_of {H : Type} {P : Program} {e : TypeId} : ∀ {l : List (DataW H)}, (DataW.weightsAll P e l).all (· ≤ reachBytes) = true → ∀ d ∈ l, (d.weights P e).all (· ≤ reachBytes) = true
 | [], _, d, hd => by cases hd
 | y :: r, h, d, hd => by
  simp only [DataW.weightsAll, List.all_append, Bool.and_eq_true] at h
  rcases List.mem_cons.1 hd with rfl | hd
  ·exact h.1
  ·exact all_of h.2 d hd
theorem slice {P : Program} {n : Nat} {t e : TypeId} {α : Type} {d : Kd α} {wf : α → Prop} {b : Nat} (ht : P.underlying t = some (.slice e)) (hc : P.cellsOf e = d.sz) (hb : P.bytesOf e = b) (he : ∀ m, m < n → ReadsN P m e d wf) :
  ReadsN P n t (Kd.slice e d) (WFL b wf) := by
 intro H enc w base spare held cs x h hr
 cases n with
 | zero => simp [DataW.trod] at h
 | succ n =>
  have h' := h
  simp only [DataW.trod, ht] at h'
  match cs, h' with
  | [.slice none 0 0], h' =>
   refine ⟨[], ⟨none, 0, rfl, Nat.le_refl _, rfl, by simp, fun h => absurd h (Nat.lt_irrefl 0)⟩, by simp, fun x hx => by cases hx⟩
  | [.slice (some a) len cap], h' =>
   simp only at h'
   split at h'
   ·rename_i hcond
    obtain ⟨elems, hel, h2⟩ := Option.bind_eq_some_iff.1 h'
    obtain ⟨rest, hrest, rfl⟩ := Option.map_eq_some_iff.1 h2
    simp only [DataW.weights, ht, List.all_cons, List.all_append, Bool.and_eq_true, hb, List.length_map, decide_eq_true_eq] at hr
    have hlen : elems.length = len := by simpa using mapM_some_length hel
    have hget : ∀ i, i < len → ∃ y : α, wf y ∧ ∃ c, c.length = d.sz ∧ d.K w y c ∧ ∀ j u, c[j]? = some u → w.cell? (a.add (i * d.sz + j)) = some u := by
     intro i hi
     have h3 := mapM_some_get hel i i (by simp [hi])
     rw [List.getElem?_eq_getElem (by omega)] at h3
     obtain ⟨cs', hcs, htr⟩ := Option.bind_eq_some_iff.1 h3
     obtain ⟨y, hK, hw⟩ := he n (Nat.lt_succ_self n) H enc w base spare held cs' _ htr (all_of hr.2.1 _ (List.mem_map.2 ⟨elems[i]'(by omega), List.getElem_mem _, rfl⟩))
     obtain ⟨_, hcl, hat⟩ := World.cells?_some hcs
     rw [hc] at hcl hat
     refine ⟨y, hw, cs', hcl, hK, fun j u hj => ?_⟩
     have hjl : j < d.sz := by
      rw [← hcl]
      exact (List.getElem?_eq_some_iff.1 hj).1
     rw [← Deep.add_add, hat j hjl, hj]
    rcases Nat.eq_zero_or_pos len with hz | hz
    ·subst hz
     refine ⟨[], ⟨some a, cap, rfl, Nat.zero_le _, rfl, by simp, fun h => absurd h (Nat.lt_irrefl 0)⟩, by simp, fun x hx => by cases hx⟩
    have hinh : Inhabited α := ⟨(hget 0 hz).choose⟩
    obtain ⟨f, hf⟩ := choose_lt hget
    refine ⟨(List.range len).map f, ⟨some a, cap, ?_, ?_, ?_, ?_, ?_⟩, ?_, ?_⟩
    ·simp
    ·simpa using hcond.2.1
    ·simp
    ·have := hcond.2.2
     have := hcond.2.1
     simp [maxLen] at *
     omega
    ·intro _
     refine ⟨a, rfl, fun j p hj => ?_⟩
     have hjl : j < len := by
      have := (List.getElem?_eq_some_iff.1 hj).1
      simpa using this
     simp [hjl] at hj
     subst hj
     obtain ⟨_, c, h1, h2, h3⟩ := hf j hjl
     exact ⟨c, h1, h2, h3⟩
    ·have h4 := hr.1
     simp only [reachBytes] at h4
     have : len * b ≤ (elems.length + rest.length) * b := Nat.mul_le_mul_right _ (by omega)
     simp
     omega
    ·intro y hy
     obtain ⟨i, hi, rfl⟩ := List.mem_map.1 hy
     exact (hf i (by simpa using hi)).1
   ·cases h'
theorem intR {P : Program} {t : TypeId} (ht : P.underlying t = some (.int .i64)) : Reads P t (Kd.int .i64) WFI := fun _ => int ht
theorem sliceR {P : Program} {t e : TypeId} {α : Type} {d : Kd α} {wf : α → Prop} {b : Nat} (ht : P.underlying t = some (.slice e)) (hc : P.cellsOf e = d.sz) (hb : P.bytesOf e = b) (he : Reads P e d wf) : Reads P t (Kd.slice e d) (WFL b wf) :=
 fun _ => slice ht hc hb (fun m _ => he m)
def FieldsN (P : Program) (n : Nat) (fs : List Field) (off : Nat) {α : Type} (d : Kd α) (wf : α → Prop) : Prop :=
 ∀ (H : Type) (enc : TypeId × Value → H) (w : World) (base : Nat) (spare : Nat → Bool) (held : Bool) (cs : List Value) (xs : List (DataW H × List MemPlace)),
  (fs.mapM fun f => DataW.trod enc P w base spare held n f.type ((cs.drop f.offset).take (P.cellsOf f.type))) = some xs →
  (DataW.weightsEach P (fs.map (·.type)) (xs.map (·.1))).all (· ≤ reachBytes) = true → cs.length = off + d.sz → ∃ a : α, d.K w a (cs.drop off) ∧ wf a
theorem last {P : Program} {n : Nat} {f : Field} {off : Nat} {α : Type} {d : Kd α} {wf : α → Prop} (ho : f.offset = off) (hc : P.cellsOf f.type = d.sz) (h : ReadsN P n f.type d wf) : FieldsN P n [f] off d wf := by
 intro H enc w base spare held cs xs hm hr hl
 simp only [List.mapM_cons, List.mapM_nil, Option.bind_eq_bind, Option.bind_eq_some_iff, Option.pure_def, Option.some.injEq] at hm
 obtain ⟨y, hy, _, rfl, rfl⟩ := hm
 rw [ho, hc, List.take_of_length_le (by rw [List.length_drop]; omega)] at hy
 simp only [List.map_cons, List.map_nil, DataW.weightsEach, List.append_nil] at hr
 exact h H enc w base spare held _ _ hy hr
theorem more {P : Program} {n : Nat} {f : Field} {fs : List Field} {off : Nat} {α β : Type} {d : Kd α} {d' : Kd β} {wf : α → Prop} {wf' : β → Prop} (ho : f.offset = off) (hc : P.cellsOf f.type = d.sz)
  (h : ReadsN P n f.type d wf) (h' : FieldsN P n fs (off + d.sz) d' wf') : FieldsN P n (f :: fs) off (Kd.pair d d') (fun x => wf x.1 ∧ wf' x.2) := by
 intro H enc w base spare held cs xs hm hr hl
 simp only [List.mapM_cons, Option.bind_eq_bind, Option.bind_eq_some_iff, Option.pure_def, Option.some.injEq] at hm
 obtain ⟨y, hy, ys, hys, rfl⟩ := hm
 simp only [List.map_cons, DataW.weightsEach, List.all_append, Bool.and_eq_true] at hr
 have hl' : cs.length = off + (d.sz + d'.sz) := hl
 rw [ho, hc] at hy
 obtain ⟨a, hK, hw⟩ := h H enc w base spare held _ _ hy hr.1
 obtain ⟨b, hK', hw'⟩ := h' H enc w base spare held cs ys hys hr.2 (by omega)
 refine ⟨(a, b), ⟨_, _, ?_, hK, hK'⟩, hw, hw'⟩
 have := (List.take_append_drop d.sz (cs.drop off)).symm
 rwa [List.drop_drop] at this
theorem struct {P : Program} {n : Nat} {t : TypeId} {fs : Array Field} {α β : Type} {d : Kd α} {wf : α → Prop} (f : β → α) (g : α → β) (hfg : ∀ a, f (g a) = a) (ht : P.underlying t = some (.struct fs)) (hc : P.cellsOf t = d.sz)
  (h : ∀ m, m < n → FieldsN P m fs.toList 0 d wf) : ReadsN P n t (Kd.iso d f) (fun x => wf (f x)) := by
 intro H enc w base spare held cs x hx hr
 cases n with
 | zero => simp [DataW.trod] at hx
 | succ n =>
  simp only [DataW.trod, ht] at hx
  have hx' : cs.length = P.cellsOf t ∧ ∃ xs, (fs.toList.mapM fun f => DataW.trod enc P w base spare held n f.type ((cs.drop f.offset).take (P.cellsOf f.type))) = some xs ∧ (.agg (xs.map (·.1)), xs.flatMap (·.2)) = x := by
   split at hx <;> simp_all
  obtain ⟨hl, xs, hm, rfl⟩ := hx'
  simp only [DataW.weights, ht] at hr
  obtain ⟨a, hK, hw⟩ := h n (Nat.lt_succ_self n) H enc w base spare held cs xs hm hr (by rw [hl, hc]; omega)
  rw [List.drop_zero] at hK
  exact ⟨g a, by show d.K w (f (g a)) cs; rw [hfg]; exact hK, by show wf (f (g a)); rw [hfg]; exact hw⟩
theorem each_of {H : Type} {P : Program} : ∀ {ts : List TypeId} {ds : List (DataW H)} {j : Nat} {t : TypeId} {d : DataW H}, (DataW.weightsEach P ts ds).all (· ≤ reachBytes) = true → ts[j]? = some t → ds[j]? = some d → (d.weights P t).all (· ≤ reachBytes) = true
 | [], _, _, _, _, _, h, _ => by simp at h
 | _ :: _, [], _, _, _, _, _, h => by simp at h
 | t0 :: ts, d0 :: ds, 0, t, d, h, ht, hd => by
  simp only [List.getElem?_cons_zero, Option.some.injEq] at ht hd
  subst ht hd
  simp only [DataW.weightsEach, List.all_append, Bool.and_eq_true] at h
  exact h.1
 | t0 :: ts, d0 :: ds, j + 1, t, d, h, ht, hd => by
  simp only [DataW.weightsEach, List.all_append, Bool.and_eq_true] at h
  exact each_of (j := j) h.2 (by simpa using ht) (by simpa using hd)
theorem arg {H : Type} {enc : TypeId × Value → H} {P : Program} {W : World} {base : Nat} {spare : Nat → Bool} {held : Bool} {t : TypeId} {v : Value} {d : DataW H} {ps : List MemPlace} {ts : List TypeId} {ds : List (DataW H)} {j : Nat} {α : Type} {k : Kd α} {wf : α → Prop}
  (hk : Reads P t k wf) (hsz : (DataW.weightsEach P ts ds).all (· ≤ reachBytes) = true) (ht : ts[j]? = some t) (hd : ds[j]? = some d) (h : DataW.Trod enc P W base spare held t v d ps) : ∃ a : α, k.K W a v.cells.toList ∧ wf a := by
 obtain ⟨fuel, hf⟩ := h
 exact hk fuel H enc W base spare held _ _ hf (each_of hsz ht hd)
end Go.Proofs.Ytelfahcjeldliaa.Reads
end
section
set_option linter.unusedVariables false
namespace Go.Proofs.Ytelfahcjeldliaa.PFnExactRefutation
open Go.RowKit Go.Proofs.YtelfahcjeldliaaW.PrintWords Go.Proofs.YtelfahcjeldliaaW.PrintLast Go.Proofs.Ytelfahcjeldliaa
def laws_FnExactRefutation.Pure : Prop := ∀ (a0_0 : Int) (l0_1 : List (List Int)), Reads.WFI a0_0 → (Reads.WFL 24 (Reads.WFL 8 Reads.WFI)) l0_1 → ∃ k, laws_FnExactRefutation.f k a0_0 l0_1 = some true
end Go.Proofs.Ytelfahcjeldliaa.PFnExactRefutation
end
section
set_option linter.unusedVariables false
set_option linter.unusedSimpArgs false
namespace Go.Proofs.Ytelfahcjeldliaa.Plain
open Go.RowKit Go.Proofs.YtelfahcjeldliaaW.PrintWords
section
variable {α β : Type}
theorem ifp {c : Prop} [Decidable c] {f g : Nat → Option α} {r : α} (h : c) (k : Ev f r) : Ev (fun n => if c then f n else g n) r := by
 obtain ⟨K, hK⟩ := k
 exact ⟨K, fun n hn => by simp only [if_pos h]; exact hK n hn⟩
theorem ifn {c : Prop} [Decidable c] {f g : Nat → Option α} {r : α} (h : ¬ c) (k : Ev g r) : Ev (fun n => if c then f n else g n) r := by
 obtain ⟨K, hK⟩ := k
 exact ⟨K, fun n hn => by simp only [if_neg h]; exact hK n hn⟩
theorem bnd {g : Nat → Option α} {f : Nat → α → Option β} {a : α} {r : β} (h : Ev g a) (k : Ev (fun n => f n a) r) : Ev (fun n => (g n).bind (f n)) r := Ev.bind h k
theorem bnd0 {g : Option α} {f : Nat → α → Option β} {a : α} {r : β} (h : g = some a) (k : Ev (fun n => f n a) r) : Ev (fun n => g.bind (f n)) r := by
 obtain ⟨K, hK⟩ := k
 exact ⟨K, fun n hn => by rw [h]; exact hK n hn⟩
theorem stp {g f : Nat → Option α} {r : α} (h : ∀ k, g (k + 1) = f k) (k : Ev f r) : Ev g r := Ev.step h k
theorem evc {g f : Nat → Option α} {r : α} (h : ∀ k, g k = f k) (k : Ev f r) : Ev g r := Ev.congr h k
theorem sm (r : α) : Ev (fun _ => some r) r := Ev.now r
theorem one {g : Option α} {r : α} (h : g = some r) : Ev (fun _ => g) r := ⟨0, fun _ _ => h⟩
theorem uniq {g : Nat → Option α} {r q : α} (h : Ev g r) (k : Ev g q) : r = q := by
 obtain ⟨K, hK⟩ := h
 obtain ⟨L, hL⟩ := k
 have h1 := hK (K + L) (by omega)
 have h2 := hL (K + L) (by omega)
 exact Option.some.inj (h1.symm.trans h2)
end
theorem up {i n : Int} (h0 : 0 ≤ i) (h : i < n) (hn : n ≤ 9223372036854775807) : wrap64 (i + 1) = i + 1 := by
 unfold wrap64
 omega
theorem w64 {x : Int} (h0 : -9223372036854775808 ≤ x) (h : x ≤ 9223372036854775807) : wrap64 x = x := by
 unfold wrap64
 omega
theorem set_take {α β : Type} (f : α → β) (xs : List α) (out : List β) (i : Nat) (x : α) (hx : xs[i]? = some x) (hl : out.length = xs.length) (h : out.take i = (xs.take i).map f) :
  (out.set i (f x)).take (i + 1) = (xs.take (i + 1)).map f := by
 have hi : i < xs.length := (List.getElem?_eq_some_iff.1 hx).1
 rw [List.take_succ_eq_append_getElem (by simp; omega), List.take_succ_eq_append_getElem hi, List.map_append, List.map_singleton, ← h]
 congr 1
 ·rw [List.take_set]
  apply List.set_eq_of_length_le
  simp
  omega
 ·rw [List.getElem_set_self]
  rw [(List.getElem?_eq_some_iff.1 hx).2]
theorem copy {α β : Type} (f : α → β) (xs : List α) (L : Int → List β → Nat → Option (List β))
  (hend : ∀ out, Ev (L (xs.length : Int) out) out)
  (hstep : ∀ (i : Nat) (out : List β) (r : List β) (x : α), xs[i]? = some x → out.length = xs.length → Ev (L ((i : Int) + 1) (out.set i (f x))) r → Ev (L (i : Int) out) r) :
  ∀ out, out.length = xs.length → Ev (L 0 out) (xs.map f) := by
 have key : ∀ (d i : Nat) (out : List β), i + d = xs.length → out.length = xs.length → out.take i = (xs.take i).map f → Ev (L (i : Int) out) (xs.map f) := by
  intro d
  induction d with
  | zero =>
   intro i out hd hl ht
   have hi : i = xs.length := by omega
   subst hi
   rw [List.take_of_length_le (by omega), List.take_of_length_le (by omega)] at ht
   subst ht
   exact hend _
  | succ d ih =>
   intro i out hd hl ht
   have hi : i < xs.length := by omega
   have hx : xs[i]? = some xs[i] := List.getElem?_eq_getElem hi
   refine hstep i out _ _ hx hl ?_
   have := ih (i + 1) (out.set i (f xs[i])) (by omega) (by simpa using hl) (set_take f xs out i _ hx hl ht)
   rwa [show ((i + 1 : Nat) : Int) = (i : Int) + 1 by omega] at this
 intro out hl
 have := key xs.length 0 out (by omega) hl (by simp)
 simpa using this
theorem same {α : Type} (xs : List α) (L : Int → Nat → Option Bool)
  (hend : Ev (L (xs.length : Int)) true)
  (hstep : ∀ (i : Nat) (x : α), xs[i]? = some x → Ev (L ((i : Int) + 1)) true → Ev (L (i : Int)) true) : Ev (L 0) true := by
 have key : ∀ (d i : Nat), i + d = xs.length → Ev (L (i : Int)) true := by
  intro d
  induction d with
  | zero =>
   intro i hd
   have hi : i = xs.length := by omega
   subst hi
   exact hend
  | succ d ih =>
   intro i hd
   have hi : i < xs.length := by omega
   refine hstep i _ (List.getElem?_eq_getElem hi) ?_
   have := ih (i + 1) (by omega)
   rwa [show ((i + 1 : Nat) : Int) = (i : Int) + 1 by omega] at this
 simpa using key xs.length 0 (by omega)
theorem allL {α : Type} (xs : List α) (q : α → Bool) (L : Int → Nat → Option Bool)
  (hend : Ev (L (xs.length : Int)) true)
  (hstep : ∀ (i : Nat) (x : α) (r : Bool), xs[i]? = some x → Ev (L ((i : Int) + 1)) r → Ev (L (i : Int)) (q x && r)) : Ev (L 0) (xs.all q) := by
 have key : ∀ (d i : Nat), i + d = xs.length → Ev (L (i : Int)) ((xs.drop i).all q) := by
  intro d
  induction d with
  | zero =>
   intro i hd
   have hi : i = xs.length := by omega
   subst hi
   rw [List.drop_length]
   exact hend
  | succ d ih =>
   intro i hd
   have hi : i < xs.length := by omega
   have := ih (i + 1) (by omega)
   rw [show ((i + 1 : Nat) : Int) = (i : Int) + 1 by omega] at this
   rw [List.drop_eq_getElem_cons hi, List.all_cons]
   exact hstep i _ _ (List.getElem?_eq_getElem hi) this
 simpa using key xs.length 0 (by omega)
theorem not_any_not {α : Type} (l : List α) (q : α → Bool) : (!(l.any fun x => !(q x))) = l.all q := by
 induction l with
 | nil => rfl
 | cons a r ih => rw [List.any_cons, List.all_cons, Bool.not_or, Bool.not_not, ih]
theorem getD_some {α : Type} {xs : List α} {i : Nat} {x d : α} (h : xs[i]? = some x) : xs.getD ((i : Int).toNat) d = x := by
 simp [List.getD, h]
end Go.Proofs.Ytelfahcjeldliaa.Plain
end
section
set_option linter.unusedVariables false
set_option linter.unusedSimpArgs false
namespace Go.Proofs.Ytelfahcjeldliaa.Pure
open Go.RowKit Go.Proofs.Ytelfahcjeldliaa Go.Proofs.Ytelfahcjeldliaa.PFnExactRefutation Go.Proofs.YtelfahcjeldliaaW.PrintWords Go.Proofs.YtelfahcjeldliaaW.PrintLast Go.Proofs.YtelfahcjeldliaaW.PrintMore Go.Proofs.Ytelfahcjeldliaa.Plain
theorem in_is (x lo hi : Int) : spec_l01In.f x lo hi = some (decide (lo ≤ x) && decide (x ≤ hi)) := by
 unfold spec_l01In.f
 by_cases h : x ≥ lo
 ·rw [if_pos h, decide_eq_true h, Bool.true_and]
 ·rw [if_neg h, decide_eq_false h, Bool.false_and]
def szI (left : Int) (c : List Int) : Int := if left - (c.length : Int) < 0 then -1 else left - (c.length : Int)
theorem szI_le (left : Int) (c : List Int) (h : 0 ≤ left) : szI left c ≤ left := by unfold szI; split <;> omega
theorem szI_is (c : List Int) (left : Int) (h0 : 0 ≤ left) (h1 : left ≤ 1048576) (hc : c.length ≤ 140737488351232) : laws_szIntS.f c left = some (szI left c) := by
 unfold laws_szIntS.f szI
 rw [w64 (by omega) (by omega)]
 by_cases h : left - (c.length : Int) < 0
 ·rw [if_pos h, if_pos h]
 ·rw [if_neg h, if_neg h]
theorem toI_is (l : List Int) (hl : l.length ≤ 35184372088832) : Ev (fun k => laws_toIntS.f k l) l := by
 refine evc (fun k => laws_toIntS.f.eq_1 ..) (ifp (by omega) (ifp (by omega) ?_))
 have := copy (fun x : Int => x) l (fun i out k => laws_toIntS.l0 k l out i) ?_ ?_ (List.replicate (l.length : Int).toNat 0) (by simp)
 ·simpa using this
 ·intro out
  exact stp (fun k => laws_toIntS.l0.eq_2 ..) (ifn (by omega) (sm _))
 ·intro i out r x hx hlen hk
  have hi : i < l.length := (List.getElem?_eq_some_iff.1 hx).1
  refine stp (fun k => laws_toIntS.l0.eq_2 ..) (ifp (by omega) (ifp (by omega) (ifp (by omega) ?_)))
  rw [show rd l (i : Int) = x from getD_some hx, up (by omega) (by omega : (i : Int) < (l.length : Int)) (by omega), Int.toNat_natCast]
  exact hk
theorem eqI_self (l : List Int) (hl : l.length ≤ 140737488351232) : Ev (fun k => laws_eqIntS.f k l l) true := by
 refine evc (fun k => laws_eqIntS.f.eq_1 ..) (ifp rfl ?_)
 refine same l (fun i k => laws_eqIntS.l0 k l l i) ?_ ?_
 ·exact stp (fun k => laws_eqIntS.l0.eq_2 ..) (ifn (by omega) (sm _))
 ·intro i x hx hk
  have hi : i < l.length := (List.getElem?_eq_some_iff.1 hx).1
  refine stp (fun k => laws_eqIntS.l0.eq_2 ..) (ifp (by omega) (ifp (by omega) (ifp (by omega) (ifp rfl ?_))))
  rw [up (by omega) (by omega : (i : Int) < (l.length : Int)) (by omega)]
  exact hk
abbrev RowsOK (l : List (List Int)) : Prop := Reads.WFL 24 (Reads.WFL 8 Reads.WFI) l
theorem rows_len {l : List (List Int)} (h : RowsOK l) : l.length * 24 ≤ 140737488351232 := h.1
theorem row_len {l : List (List Int)} (h : RowsOK l) {i : Nat} {c : List Int} (hc : l[i]? = some c) : c.length * 8 ≤ 140737488351232 := (h.2 c (List.mem_of_getElem? hc)).1
theorem toSS_is (l : List (List Int)) (h : RowsOK l) : Ev (fun k => laws_toIntSS.f k l) l := by
 have hl := rows_len h
 refine evc (fun k => laws_toIntSS.f.eq_1 ..) (ifp (by omega) (ifp (by omega) ?_))
 have := copy (fun x : List Int => x) l (fun i out k => laws_toIntSS.l0 k l out i) ?_ ?_ (List.replicate (l.length : Int).toNat []) (by simp)
 ·simpa using this
 ·intro out
  exact stp (fun k => laws_toIntSS.l0.eq_2 ..) (ifn (by omega) (sm _))
 ·intro i out r x hx hlen hk
  have hi : i < l.length := (List.getElem?_eq_some_iff.1 hx).1
  have hxl := row_len h hx
  refine stp (fun k => laws_toIntSS.l0.eq_2 ..) (ifp (by omega) (ifp (by omega) ?_))
  rw [show rd_L1 l (i : Int) = x from getD_some hx, up (by omega) (by omega : (i : Int) < (l.length : Int)) (by omega), Int.toNat_natCast]
  exact bnd (toI_is x (by omega)) (ifp (by omega) hk)
theorem toCnf_is (a : Int) (l : List (List Int)) (h : RowsOK l) : Ev (fun k => laws_toCnf.f k a l) (a, l) := bnd (toSS_is l h) (sm _)
theorem eqSS_self (l : List (List Int)) (h : RowsOK l) : Ev (fun k => laws_eqIntSS.f k l l) true := by
 have hl := rows_len h
 refine evc (fun k => laws_eqIntSS.f.eq_1 ..) (ifp rfl ?_)
 refine same l (fun i k => laws_eqIntSS.l0 k l l i) ?_ ?_
 ·exact stp (fun k => laws_eqIntSS.l0.eq_2 ..) (ifn (by omega) (sm _))
 ·intro i x hx hk
  have hi : i < l.length := (List.getElem?_eq_some_iff.1 hx).1
  have hxl := row_len h hx
  refine stp (fun k => laws_eqIntSS.l0.eq_2 ..) (ifp (by omega) (ifp (by omega) (ifp (by omega) ?_)))
  rw [show rd_L1 l (i : Int) = x from getD_some hx, up (by omega) (by omega : (i : Int) < (l.length : Int)) (by omega)]
  exact bnd (eqI_self x (by omega)) (ifp rfl hk)
theorem eqCnf_self (a : Int) (l : List (List Int)) (h : RowsOK l) : Ev (fun k => laws_eqCnf.f k a l a l) true :=
 evc (fun k => laws_eqCnf.f.eq_1 ..) (ifp rfl (bnd (eqSS_self l h) (ifp rfl (sm _))))
theorem specClause_is (c : List Int) (vars : Int) (hc : c.length * 8 ≤ 140737488351232) : Ev (fun k => spec_l01Clause.f k c vars) (clauseB c vars) := by
 unfold clauseB
 rw [not_any_not c (fun x => litB x vars)]
 refine evc (fun k => spec_l01Clause.f.eq_1 ..) ?_
 by_cases h : c.length ≤ 12
 ·rw [decide_eq_true h, Bool.true_and]
  refine ifn (by omega) ?_
  refine allL c (fun x => litB x vars) (fun i k => spec_l01Clause.l0 k c vars i) ?_ ?_
  ·exact stp (fun k => spec_l01Clause.l0.eq_2 ..) (ifn (by omega) (sm _))
  ·intro i x r hx hk
   have hi : i < c.length := (List.getElem?_eq_some_iff.1 hx).1
   refine stp (fun k => spec_l01Clause.l0.eq_2 ..) (ifp (by omega) (ifp (by omega) ?_))
   rw [show rd c (i : Int) = x from getD_some hx, up (by omega) (by omega : (i : Int) < (c.length : Int)) (by omega)]
   unfold litB
   by_cases hz : x = 0
   ·refine ifp hz ?_
    rw [decide_eq_false (by simpa using hz)]
    exact sm _
   ·refine ifn hz (bnd0 (in_is _ _ _) ?_)
    rw [decide_eq_true hz, Bool.true_and]
    cases hb : decide (wrap64 (-vars) ≤ x) && decide (x ≤ vars) with
    | true => exact ifp rfl (by simpa using hk)
    | false => exact ifn (by simp) (sm _)
 ·rw [decide_eq_false h, Bool.false_and]
  exact ifp (by omega) (sm _)
theorem specCnf_is (a : Int) (l : List (List Int)) (h : RowsOK l) : Ev (fun k => spec_CnfOK.f k a l) (cnfB a l) := by
 have hl := rows_len h
 unfold cnfB
 rw [not_any_not l (fun c => clauseB c a), ← Bool.and_assoc]
 refine bnd0 (in_is _ _ _) ?_
 cases h1 : decide (0 ≤ a) && decide (a ≤ 40) with
 | false =>
  rw [Bool.false_and]
  exact ifn (by simp) (stp (fun k => spec_CnfOK.j0.eq_2 ..) (ifp rfl (sm _)))
 | true =>
  rw [Bool.true_and]
  refine ifp rfl (stp (fun k => spec_CnfOK.j0.eq_2 ..) ?_)
  by_cases h2 : l.length ≤ 300
  ·rw [decide_eq_true h2, Bool.true_and]
   refine ifn (by simp; omega) ?_
   refine allL l (fun c => clauseB c a) (fun i k => spec_CnfOK.l0 k i a l) ?_ ?_
   ·exact stp (fun k => spec_CnfOK.l0.eq_2 ..) (ifn (by omega) (sm _))
   ·intro i x r hx hk
    have hi : i < l.length := (List.getElem?_eq_some_iff.1 hx).1
    have hxl := row_len h hx
    refine stp (fun k => spec_CnfOK.l0.eq_2 ..) (ifp (by omega) (ifp (by omega) ?_))
    rw [show rd_L1 l (i : Int) = x from getD_some hx, up (by omega) (by omega : (i : Int) < (l.length : Int)) (by omega)]
    refine bnd (specClause_is x a hxl) ?_
    cases hb : clauseB x a with
    | true => exact ifp rfl (by simpa using hk)
    | false => exact ifn (by simp) (sm _)
  ·rw [decide_eq_false h2, Bool.false_and]
   exact ifp (by simp; omega) (sm _)
theorem szSS_sum (l : List (List Int)) (h : RowsOK l) (left : Int) (h0 : 0 ≤ left) (h1 : left ≤ 1048576) : ∃ v : Int, v ≤ 1048576 ∧ Ev (fun k => laws_szIntSS.f k l left) v ∧ (0 ≤ v → (sumL l : Int) ≤ left) := by
 have hl := rows_len h
 by_cases hs : left - (l.length : Int) < 0
 ·exact ⟨-1, by omega, evc (fun k => laws_szIntSS.f.eq_1 ..) (ifp (by rw [w64 (by omega) (by omega)]; exact hs) (sm _)), fun h => by omega⟩
 ·have key : ∀ (d i : Nat) (lf : Int), i + d = l.length → 0 ≤ lf → lf ≤ 1048576 → ∃ v : Int, v ≤ 1048576 ∧ Ev (fun k => laws_szIntSS.l0 k l lf (i : Int)) v ∧ (0 ≤ v → (sumL (l.drop i) : Int) ≤ lf) := by
   intro d
   induction d with
   | zero =>
    intro i lf hi hf0 hf1
    obtain rfl : i = l.length := by omega
    rw [List.drop_length]
    exact ⟨lf, hf1, stp (fun k => laws_szIntSS.l0.eq_2 ..) (ifn (by omega) (sm _)), fun _ => hf0⟩
   | succ d ih =>
    intro i lf hi hf0 hf1
    have hil : i < l.length := by omega
    have hx : l[i]? = some l[i] := List.getElem?_eq_getElem hil
    have hlen := row_len h hx
    have hsz := szI_is l[i] lf hf0 hf1 (by omega)
    have hsum := sumL_drop l i hil
    rw [show l.getD i [] = l[i] by simp [List.getD, hil]] at hsum
    by_cases hn : szI lf l[i] < 0
    ·refine ⟨-1, by omega, stp (fun k => laws_szIntSS.l0.eq_2 ..) (ifp (by omega) (ifp (by omega) ?_)), fun h => by omega⟩
     rw [show rd_L1 l (i : Int) = l[i] from getD_some hx]
     exact bnd0 hsz (ifp hn (sm _))
    ·obtain ⟨v, hv, hev, hvs⟩ := ih (i + 1) (szI lf l[i]) (by omega) (by omega) (by have := szI_le lf l[i] hf0; omega)
     rw [show ((i + 1 : Nat) : Int) = (i : Int) + 1 by omega] at hev
     refine ⟨v, hv, stp (fun k => laws_szIntSS.l0.eq_2 ..) (ifp (by omega) (ifp (by omega) ?_)), fun h0 => ?_⟩
     ·rw [show rd_L1 l (i : Int) = l[i] from getD_some hx, up (by omega) (by omega : (i : Int) < (l.length : Int)) (by omega)]
      exact bnd0 hsz (ifn hn hev)
     ·have h2 := hvs h0
      have h3 : szI lf l[i] = lf - (l[i].length : Int) := by unfold szI at hn ⊢; split at hn <;> simp_all <;> omega
      omega
  obtain ⟨v, hv, hev, hvs⟩ := key l.length 0 (left - (l.length : Int)) (by omega) (by omega) (by omega)
  rw [List.drop_zero] at hvs
  refine ⟨v, hv, evc (fun k => laws_szIntSS.f.eq_1 ..) (ifn (by rw [w64 (by omega) (by omega)]; exact hs) ?_), fun h0 => by have := hvs h0; omega⟩
  rw [w64 (by omega) (by omega)]
  exact hev
theorem szCnf_sum (a : Int) (l : List (List Int)) (h : RowsOK l) (left : Int) (h0 : 0 ≤ left) (h1 : left ≤ 1048576) : ∃ v : Int, v ≤ 1048576 ∧ Ev (fun k => laws_szCnf.f k a l left) v ∧ (0 ≤ v → (sumL l : Int) ≤ left) := by
 obtain ⟨v, hv, hev, hs⟩ := szSS_sum l h left h0 h1
 by_cases hn : v < 0
 ·exact ⟨-1, by omega, bnd hev (ifp hn (sm _)), fun h => by omega⟩
 ·exact ⟨v, hv, bnd hev (ifn hn (sm _)), hs⟩
abbrev ValsOK (vals : List Int) : Prop := ∀ v ∈ vals, v = -1 ∨ v = 0 ∨ v = 1
abbrev LitsOK (n : Nat) (c : List Int) : Prop := ∀ x ∈ c, x ≠ 0 ∧ x.natAbs < n
theorem lits_fit {n : Nat} {c : List Int} (h : LitsOK n c) : fitL n c = true := List.all_eq_true.2 fun x hx => decide_eq_true (h x hx).2
theorem vals_set {vals : List Int} (h : ValsOK vals) (x : Int) : ValsOK (setL vals x) := by
 intro v hv
 unfold setL at hv
 split at hv
 ·rcases List.mem_or_eq_of_mem_set hv with h2 | h2
  ·exact h v h2
  ·exact .inl h2
 ·rcases List.mem_or_eq_of_mem_set hv with h2 | h2
  ·exact h v h2
  ·exact .inr (.inr h2)
theorem vals_zero (n : Nat) : ValsOK (List.replicate n 0) := fun v hv => .inr (.inl (List.eq_of_mem_replicate hv))
def valL (vals : List Int) (x : Int) : Int := if x < 0 then -(rd vals (x.natAbs : Int)) else rd vals (x.natAbs : Int)
theorem rd_ok {vals : List Int} (h : ValsOK vals) (i : Int) (h0 : 0 ≤ i) (h1 : i < vals.length) : rd vals i = -1 ∨ rd vals i = 0 ∨ rd vals i = 1 := by
 have hi : i.toNat < vals.length := by omega
 have : rd vals i = vals[i.toNat] := by unfold rd; simp [List.getD, hi]
 rw [this]
 exact h _ (List.getElem_mem hi)
theorem isL_val (vals : List Int) (x : Int) : isL vals x = decide (valL vals x = 1) := by
 unfold isL valL
 by_cases h : x < 0
 ·rw [if_pos h, if_pos h, show (x.natAbs : Int) = -x by omega, Bool.eq_iff_iff, beq_iff_eq, decide_eq_true_eq]
  omega
 ·rw [if_neg h, if_neg h, show (x.natAbs : Int) = x by omega, Bool.eq_iff_iff, beq_iff_eq, decide_eq_true_eq]
theorem isL_neg {vals : List Int} {x : Int} (h0 : x ≠ 0) : isL vals (-x) = decide (valL vals x = -1) := by
 rw [isL_val]
 unfold valL
 rw [show (-x).natAbs = x.natAbs by omega, Bool.eq_iff_iff, decide_eq_true_eq, decide_eq_true_eq]
 by_cases h : x < 0
 ·rw [if_neg (by omega), if_pos h]
  omega
 ·rw [if_pos (by omega), if_neg h]
  omega
theorem valL_ok {vals : List Int} (h : ValsOK vals) {x : Int} (hx : x.natAbs < vals.length) : valL vals x = -1 ∨ valL vals x = 0 ∨ valL vals x = 1 := by
 have := rd_ok h (x.natAbs : Int) (by omega) (by omega)
 unfold valL
 split <;> omega
def clS (vals : List Int) : List Int → Int → Int → Bool × Int × Int
 | [], n, one => (false, n, one)
 | x :: r, n, one => if valL vals x = 1 then (true, 0, 0) else if valL vals x = 0 then (if one = x then clS vals r n one else clS vals r (n + 1) x) else clS vals r n one
def cvS (q : Bool × Int × Int) : Int × Bool := if q.1 = true then (0, false) else if q.2.1 = 0 then (0, true) else if q.2.1 = 1 then (q.2.2, false) else (0, false)
theorem clS_two (vals : List Int) : ∀ (c : List Int) (n one : Int), 2 ≤ n → cvS (clS vals c n one) = (0, false)
 | [], n, one, h => by
  unfold clS cvS
  rw [if_neg (by simp), if_neg (by simp; omega), if_neg (by simp; omega)]
 | x :: r, n, one, h => by
  unfold clS
  split
  ·rfl
  ·split
   ·split
    ·exact clS_two vals r n one h
    ·exact clS_two vals r (n + 1) x (by omega)
   ·exact clS_two vals r n one h
theorem unit_clS {vals : List Int} (hv : ValsOK vals) : ∀ (c : List Int) (one : Int), LitsOK vals.length c → unitL vals c one = cvS (clS vals c (if one = 0 then 0 else 1) one)
 | [], one, _ => by
  unfold unitL clS cvS
  by_cases h : one = 0
  ·subst h; rfl
  ·rw [if_neg h, if_neg (by simp), if_neg (by simp), if_pos rfl, beq_eq_false_iff_ne.2 h]
 | x :: r, one, hl => by
  have hx := hl x (by simp)
  have hr : LitsOK vals.length r := fun y hy => hl y (by simp [hy])
  have ih := unit_clS hv r
  unfold unitL clS
  rw [isL_val, isL_neg hx.1]
  rcases valL_ok hv hx.2 with h | h | h
  ·rw [h, if_neg (by decide), if_pos (by decide), if_neg (by decide), if_neg (by decide)]
   exact ih one hr
  ·rw [h, if_neg (show ¬ (decide ((0 : Int) = 1) = true) by decide), if_neg (show ¬ (decide ((0 : Int) = -1) = true) by decide), if_neg (show ¬ (0 : Int) = 1 by decide), if_pos (show (0 : Int) = 0 from rfl)]
   by_cases hxo : x = one
   ·rw [if_pos hxo, if_pos hxo.symm]
    exact ih one hr
   ·have hox : ¬ one = x := fun e => hxo e.symm
    rw [if_neg hxo, if_neg hox]
    by_cases h0 : one = 0
    ·rw [if_pos h0, if_pos h0]
     have := ih x hr
     rwa [if_neg hx.1] at this
    ·rw [if_neg h0, if_neg h0]
     exact (clS_two vals r (1 + 1) x (by omega)).symm
  ·rw [h, if_pos (by decide), if_pos rfl]
   rfl
theorem abs_is {x : Int} (h : x.natAbs < 4097) : spec_l01Abs.f x = some (x.natAbs : Int) := by
 unfold spec_l01Abs.f mx
 rw [w64 (by omega) (by omega)]
 split
 ·congr 1; omega
 ·congr 1; omega
theorem setS_is {vals : List Int} {x : Int} (h0 : x ≠ 0) (h : x.natAbs < vals.length) (hn : vals.length ≤ 4096) : spec_l02Set.f vals x = some (setL vals x) := by
 unfold spec_l02Set.f setL
 rw [w64 (by omega) (by omega)]
 by_cases hx : x > 0
 ·rw [if_pos hx, if_pos (by omega), if_pos (by omega), if_neg (by omega)]
 ·rw [if_neg hx, if_pos (by omega), if_pos (by omega), if_pos (by omega)]
theorem clause_is (c vals : List Int) (hv : ValsOK vals) (hl : LitsOK vals.length c) (hn : vals.length ≤ 4096) (hc : c.length * 8 ≤ 140737488351232) : Ev (fun k => spec_l02Clause.f k c vals) (clS vals c 0 0) := by
 refine evc (fun k => spec_l02Clause.f.eq_1 ..) ?_
 have key : ∀ (d i : Nat) (n one : Int), i + d = c.length → 0 ≤ n → n ≤ i → Ev (fun k => spec_l02Clause.l0 k c vals n one (i : Int)) (clS vals (c.drop i) n one) := by
  intro d
  induction d with
  | zero =>
   intro i n one hi h0 h1
   obtain rfl : i = c.length := by omega
   rw [List.drop_length, clS]
   exact stp (fun k => spec_l02Clause.l0.eq_2 ..) (ifn (by omega) (sm _))
  | succ d ih =>
   intro i n one hi h0 h1
   have hil : i < c.length := by omega
   have hx := hl c[i] (List.getElem_mem hil)
   have hr : rd c (i : Int) = c[i] := getD_some (List.getElem?_eq_getElem hil)
   have hup : wrap64 ((i : Int) + 1) = ((i + 1 : Nat) : Int) := by rw [up (by omega) (by omega : (i : Int) < (c.length : Int)) (by omega)]; omega
   have hn1 : wrap64 (n + 1) = n + 1 := w64 (by omega) (by omega)
   rw [List.drop_eq_getElem_cons hil, clS]
   have hvo := rd_ok hv (c[i].natAbs : Int) (by omega) (by omega)
   refine stp (fun k => spec_l02Clause.l0.eq_2 ..) (ifp (by omega) (ifp (by omega) ?_))
   rw [hr]
   refine bnd0 (abs_is (by omega)) (ifp (by omega) (ifp (by omega) ?_))
   have fin : Ev (fun k => spec_l02Clause.j1 k c vals n one (i : Int) (valL vals c[i])) (if valL vals c[i] = 1 then (true, 0, 0) else if valL vals c[i] = 0 then (if one = c[i] then clS vals (c.drop (i + 1)) n one else clS vals (c.drop (i + 1)) (n + 1) c[i]) else clS vals (c.drop (i + 1)) n one) := by
    refine stp (fun k => spec_l02Clause.j1.eq_2 ..) ?_
    rw [hup, hn1, hr]
    by_cases e1 : valL vals c[i] = 1
    ·rw [if_pos e1]
     exact ifp e1 (sm _)
    ·rw [if_neg e1]
     refine ifn e1 ?_
     by_cases e2 : valL vals c[i] = 0
     ·rw [if_pos e2]
      refine ifp e2 (ifp (by omega) (ifp (by omega) ?_))
      by_cases e3 : one = c[i]
      ·rw [if_pos e3]
       exact ifp e3 (ih (i + 1) n one (by omega) h0 (by omega))
      ·rw [if_neg e3]
       exact ifn e3 (ih (i + 1) (n + 1) c[i] (by omega) (by omega) (by omega))
     ·rw [if_neg e2]
      exact ifn e2 (ih (i + 1) n one (by omega) h0 (by omega))
   by_cases hneg : c[i] < 0
   ·refine ifp hneg ?_
    rw [w64 (by omega) (by omega)]
    have e : valL vals c[i] = -(rd vals (c[i].natAbs : Int)) := by unfold valL; rw [if_pos hneg]
    rw [← e]
    exact fin
   ·refine ifn hneg ?_
    have e : valL vals c[i] = rd vals (c[i].natAbs : Int) := by unfold valL; rw [if_neg hneg]
    rw [← e]
    exact fin
 have := key c.length 0 0 0 (by omega) (by omega) (by omega)
 rwa [List.drop_zero] at this
theorem unit_open {vals : List Int} (hv : ValsOK vals) : ∀ (c : List Int) (one : Int), LitsOK vals.length c → (one ≠ 0 → one.natAbs < vals.length ∧ valL vals one = 0) → (unitL vals c one).1 ≠ 0 → (unitL vals c one).1.natAbs < vals.length ∧ valL vals (unitL vals c one).1 = 0
 | [], one, _, h1, h => by
  rw [unitL] at h ⊢
  exact h1 h
 | x :: r, one, hl, h1, h => by
  have hx := hl x (by simp)
  have hr : LitsOK vals.length r := fun y hy => hl y (by simp [hy])
  rw [unitL] at h ⊢
  rw [isL_val, isL_neg hx.1] at h ⊢
  rcases valL_ok hv hx.2 with e | e | e
  ·rw [e, if_neg (by decide), if_pos (by decide)] at h ⊢
   exact unit_open hv r one hr h1 h
  ·rw [e, if_neg (by decide), if_neg (by decide)] at h ⊢
   by_cases hxo : x = one
   ·rw [if_pos hxo] at h ⊢
    exact unit_open hv r one hr h1 h
   ·rw [if_neg hxo] at h ⊢
    by_cases h0 : one = 0
    ·rw [if_pos h0] at h ⊢
     exact unit_open hv r x hr (fun _ => ⟨hx.2, e⟩) h
    ·rw [if_neg h0] at h
     exact absurd rfl h
  ·rw [e, if_pos (by decide)] at h
   exact absurd rfl h
theorem scan_open {vals : List Int} (hv : ValsOK vals) : ∀ (cs : List (List Int)) (i : Nat) (next : Int), (∀ c ∈ cs, LitsOK vals.length c) → (next ≠ 0 → next.natAbs < vals.length ∧ valL vals next = 0) → (scanL vals cs i next).2 ≠ 0 → (scanL vals cs i next).2.natAbs < vals.length ∧ valL vals (scanL vals cs i next).2 = 0
 | [], i, next, _, h1, h => by
  rw [scanL] at h ⊢
  exact h1 h
 | c :: r, i, next, hl, h1, h => by
  rw [scanL] at h ⊢
  by_cases hf : (unitL vals c 0).2 = true
  ·rw [if_pos hf] at h ⊢
   exact h1 h
  ·rw [if_neg hf] at h ⊢
   refine scan_open hv r (i + 1) _ (fun c hc => hl c (by simp [hc])) (fun hne => ?_) h
   by_cases h0 : next = 0
   ·rw [if_pos h0] at hne ⊢
    exact unit_open hv c 0 (hl c (by simp)) (fun e => absurd rfl e) hne
   ·rw [if_neg h0]
    exact h1 h0
theorem count_set {vals : List Int} {x : Int} (h0 : x ≠ 0) (hx : x.natAbs < vals.length) (hz : valL vals x = 0) : (setL vals x).count 0 + 1 = vals.count 0 := by
 have hr : vals[x.natAbs] = 0 := by
  have : rd vals (x.natAbs : Int) = vals[x.natAbs] := getD_some (List.getElem?_eq_getElem hx)
  unfold valL at hz
  rw [← this]
  split at hz <;> omega
 have hpos : 0 < vals.count 0 := List.count_pos_iff.2 (hr ▸ List.getElem_mem hx)
 unfold setL
 by_cases h : x < 0
 ·rw [if_pos h, show (-x).toNat = x.natAbs by omega, List.count_set hx]
  simp [hr]
  omega
 ·rw [if_neg h, show x.toNat = x.natAbs by omega, List.count_set hx]
  simp [hr]
  omega
theorem round_is (cs : List (List Int)) (vals list : List Int) (hv : ValsOK vals) (hn : vals.length ≤ 4096) (hc : ∀ c ∈ cs, LitsOK vals.length c ∧ c.length * 8 ≤ 140737488351232) (hlen : cs.length * 24 ≤ 140737488351232) (r : List Int × Int × List Int)
  (hcon : ∀ next, scanL vals cs 0 0 = (none, next) → Ev (fun k => if next = 0 then some (list, (-1 : Int), vals) else (spec_l02Set.f vals next).bind fun t => if list.length < 17592186044416 then spec_l02Run.l0 k cs t (list ++ [next]) else none) r)
  (hhit : ∀ i next, scanL vals cs 0 0 = (some i, next) → r = (list, (i : Int), vals)) : Ev (fun k => spec_l02Run.l0 k cs vals list) r := by
 refine stp (fun k => spec_l02Run.l0.eq_2 ..) ?_
 have key : ∀ (d i : Nat) (next : Int), i + d = cs.length → scanL vals (cs.drop i) i next = scanL vals cs 0 0 → Ev (fun k => spec_l02Run.l1 k cs vals list next (i : Int)) r := by
  intro d
  induction d with
  | zero =>
   intro i next hi hs
   obtain rfl : i = cs.length := by omega
   rw [List.drop_length, scanL] at hs
   refine stp (fun k => spec_l02Run.l1.eq_2 ..) (ifn (by omega) ?_)
   exact hcon next hs.symm
  | succ d ih =>
   intro i next hi hs
   have hil : i < cs.length := by omega
   have hx := hc cs[i] (List.getElem_mem hil)
   have hr : rd_L1 cs (i : Int) = cs[i] := getD_some (List.getElem?_eq_getElem hil)
   have hup : wrap64 ((i : Int) + 1) = ((i + 1 : Nat) : Int) := by rw [up (by omega) (by omega : (i : Int) < (cs.length : Int)) (by omega)]; omega
   rw [List.drop_eq_getElem_cons hil, scanL] at hs
   have hu := unit_clS hv cs[i] 0 hx.1
   rw [if_pos rfl] at hu
   rw [hu] at hs
   refine stp (fun k => spec_l02Run.l1.eq_2 ..) (ifp (by omega) (ifp (by omega) ?_))
   rw [hr, hup]
   refine bnd (clause_is cs[i] vals hv hx.1 hn hx.2) ?_
   generalize clS vals cs[i] 0 0 = q at hs ⊢
   obtain ⟨q0, q1, q2⟩ := q
   unfold cvS at hs
   simp only at hs ⊢
   cases q0 with
   | true =>
    refine ifp rfl (ih (i + 1) next (by omega) ?_)
    rw [if_pos rfl] at hs
    simp only [Bool.false_eq_true, if_false] at hs
    by_cases h0 : next = 0
    ·rw [if_pos h0] at hs
     rw [h0]
     exact hs
    ·rw [if_neg h0] at hs
     exact hs
   | false =>
    rw [if_neg (show ¬ (false = true) by decide)] at hs
    refine ifn (by simp) ?_
    by_cases h1 : q1 = 0
    ·rw [if_pos h1, if_pos rfl] at hs
     rw [hhit i next hs.symm]
     exact ifp h1 (sm _)
    ·rw [if_neg h1] at hs
     refine ifn h1 ?_
     by_cases h2 : q1 = 1
     ·rw [if_pos h2] at hs
      simp only [Bool.false_eq_true, if_false] at hs
      refine ifp h2 ?_
      by_cases h0 : next = 0
      ·rw [if_pos h0] at hs
       exact ifp h0 (ih (i + 1) q2 (by omega) hs)
      ·rw [if_neg h0] at hs
       exact ifn h0 (ih (i + 1) next (by omega) hs)
     ·rw [if_neg h2] at hs
      simp only [Bool.false_eq_true, if_false] at hs
      refine ifn h2 (ih (i + 1) next (by omega) ?_)
      by_cases h0 : next = 0
      ·rw [if_pos h0] at hs
       rw [h0]
       exact hs
      ·rw [if_neg h0] at hs
       exact hs
 exact key cs.length 0 0 (by omega) (by rw [List.drop_zero])
theorem scan_none_ {vals : List Int} : ∀ (cs : List (List Int)) (i : Nat) (next : Int), (scanL vals cs i next).1 = none → ∀ c ∈ cs, (unitL vals c 0).2 = false
 | [], _, _, _, c, hc => by cases hc
 | a :: r, i, next, h, c, hc => by
  rw [scanL] at h
  by_cases hf : (unitL vals a 0).2 = true
  ·rw [if_pos hf] at h
   cases h
  ·rw [if_neg hf] at h
   rcases List.mem_cons.1 hc with rfl | hc
   ·exact Bool.eq_false_iff.2 hf
   ·exact scan_none_ r _ _ h c hc
theorem scan_none {vals : List Int} {cs : List (List Int)} {next : Int} (h : scanL vals cs 0 0 = (none, next)) : ∀ c ∈ cs, (unitL vals c 0).2 = false := scan_none_ cs 0 0 (by rw [h])
theorem run_is (cs : List (List Int)) (hlen : cs.length * 24 ≤ 140737488351232) : ∀ (n : Nat) (vals list : List Int), vals.count 0 ≤ n → ValsOK vals → vals.length ≤ 4096 → (∀ c ∈ cs, LitsOK vals.length c ∧ c.length * 8 ≤ 140737488351232) → list.length + n ≤ 1000000 →
  ∃ r : List Int × List Int × Int, Ev (fun k => propL cs k vals list) r ∧ Ev (fun k => spec_l02Run.l0 k cs vals list) (r.2.1, r.2.2, r.1) ∧ r.1.length = vals.length ∧ ValsOK r.1 ∧ (r.2.2 < 0 → ∀ c ∈ cs, (unitL r.1 c 0).2 = false) := by
 intro n
 induction n with
 | zero =>
  intro vals list hz hv hn hc hl
  obtain ⟨q, hq⟩ : ∃ q, scanL vals cs 0 0 = q := ⟨_, rfl⟩
  have ho := scan_open hv cs 0 0 (fun c hc' => (hc c hc').1) (fun e => absurd rfl e)
  rw [hq] at ho
  obtain ⟨o, next⟩ := q
  cases o with
  | some i =>
   refine ⟨(vals, list, (i : Int)), stp (fun k => propL.eq_2 ..) ?_, round_is cs vals list hv hn hc hlen _ (fun nx e => ?_) (fun j nx e => ?_), rfl, hv, fun h => by simp only at h; omega⟩
   ·rw [hq]
    exact sm _
   ·rw [hq] at e
    cases e
   ·rw [hq] at e
    cases e
    rfl
  | none =>
   have h0 : next = 0 := by
    by_cases h0 : next = 0
    ·exact h0
    ·have h1 := ho h0
     have h2 := count_set h0 h1.1 h1.2
     omega
   subst h0
   refine ⟨(vals, list, -1), stp (fun k => propL.eq_2 ..) ?_, round_is cs vals list hv hn hc hlen _ (fun nx e => ?_) (fun j nx e => ?_), rfl, hv, fun _ => scan_none hq⟩
   ·rw [hq]
    exact ifp rfl (sm _)
   ·rw [hq] at e
    cases e
    exact ifp rfl (sm _)
   ·rw [hq] at e
    cases e
 | succ n ih =>
  intro vals list hz hv hn hc hl
  obtain ⟨q, hq⟩ : ∃ q, scanL vals cs 0 0 = q := ⟨_, rfl⟩
  have ho := scan_open hv cs 0 0 (fun c hc' => (hc c hc').1) (fun e => absurd rfl e)
  rw [hq] at ho
  obtain ⟨o, next⟩ := q
  cases o with
  | some i =>
   refine ⟨(vals, list, (i : Int)), stp (fun k => propL.eq_2 ..) ?_, round_is cs vals list hv hn hc hlen _ (fun nx e => ?_) (fun j nx e => ?_), rfl, hv, fun h => by simp only at h; omega⟩
   ·rw [hq]
    exact sm _
   ·rw [hq] at e
    cases e
   ·rw [hq] at e
    cases e
    rfl
  | none =>
   by_cases h0 : next = 0
   ·subst h0
    refine ⟨(vals, list, -1), stp (fun k => propL.eq_2 ..) ?_, round_is cs vals list hv hn hc hlen _ (fun nx e => ?_) (fun j nx e => ?_), rfl, hv, fun _ => scan_none hq⟩
    ·rw [hq]
     exact ifp rfl (sm _)
    ·rw [hq] at e
     cases e
     exact ifp rfl (sm _)
    ·rw [hq] at e
     cases e
   ·have h1 := ho h0
    simp only at h1
    have h2 := count_set h0 h1.1 h1.2
    obtain ⟨r, hr1, hr2, hr3, hr4, hr5⟩ := ih (setL vals next) (list ++ [next]) (by omega) (vals_set hv next) (by rw [setL_length]; exact hn) (by rw [setL_length]; exact hc) (by simp; omega)
    refine ⟨r, stp (fun k => propL.eq_2 ..) ?_, round_is cs vals list hv hn hc hlen _ (fun nx e => ?_) (fun j nx e => ?_), by rw [hr3, setL_length], hr4, hr5⟩
    ·rw [hq]
     exact ifn h0 (ifp (by omega) hr1)
    ·rw [hq] at e
     cases e
     exact ifn h0 (bnd0 (setS_is h0 h1.1 hn) (ifp (by omega) hr2))
    ·rw [hq] at e
     cases e
theorem clause_lits {a : Int} (h0 : 0 ≤ a) (h1 : a ≤ 40) {c : List Int} (h : clauseB c a = true) : LitsOK (a + 1).toNat c := by
 intro x hx
 unfold clauseB at h
 rw [not_any_not c (fun x => litB x a), Bool.and_eq_true] at h
 have := List.all_eq_true.1 h.2 x hx
 simp only [litB, Bool.and_eq_true, decide_eq_true_eq] at this
 rw [w64 (by omega) (by omega)] at this
 refine ⟨this.1, by omega⟩
theorem cnf_lits {a : Int} {l : List (List Int)} (hr : RowsOK l) (h : cnfB a l = true) : 0 ≤ a ∧ a ≤ 40 ∧ ∀ c ∈ l, LitsOK (a + 1).toNat c ∧ c.length * 8 ≤ 140737488351232 := by
 unfold cnfB at h
 rw [not_any_not l (fun c => clauseB c a)] at h
 simp only [Bool.and_eq_true, decide_eq_true_eq] at h
 refine ⟨h.1, h.2.1, fun c hc => ⟨clause_lits h.1 h.2.1 (List.all_eq_true.1 h.2.2.2 c hc), (hr.2 c hc).1⟩⟩
def Ext (vals M : List Int) : Prop := ∀ i : Nat, vals.getD i 0 ≠ 0 → M.getD i 0 = vals.getD i 0
theorem rd_nat (vals : List Int) (n : Nat) : rd vals (n : Int) = vals.getD n 0 := by unfold rd; rw [Int.toNat_natCast]
theorem Ext.refl (vals : List Int) : Ext vals vals := fun _ _ => rfl
theorem Ext.trans {a b c : List Int} (h : Ext a b) (k : Ext b c) : Ext a c := fun i hi => by
 have h1 := h i hi
 rw [← h1] at hi ⊢
 exact k i hi
theorem Ext.val {vals M : List Int} (h : Ext vals M) {x : Int} (hx : valL vals x ≠ 0) : valL M x = valL vals x := by
 unfold valL at hx ⊢
 rw [rd_nat, rd_nat] at *
 split at hx
 ·rename_i hn
  rw [if_pos hn, if_pos hn, h x.natAbs (by omega)]
 ·rename_i hn
  rw [if_neg hn, if_neg hn, h x.natAbs hx]
theorem set_val {vals : List Int} {x : Int} (h0 : x ≠ 0) (hx : x.natAbs < vals.length) : valL (setL vals x) x = 1 := by
 unfold valL setL
 rw [rd_nat]
 by_cases h : x < 0
 ·rw [if_pos h, if_pos h, show (-x).toNat = x.natAbs by omega]
  simp [List.getD, hx]
 ·rw [if_neg h, if_neg h, show x.toNat = x.natAbs by omega]
  simp [List.getD, hx]
theorem set_other {vals : List Int} {x : Int} {i : Nat} (hi : i ≠ x.natAbs) : (setL vals x).getD i 0 = vals.getD i 0 := by
 unfold setL
 split
 ·rw [List.getD_eq_getElem?_getD, List.getD_eq_getElem?_getD, List.getElem?_set_ne (by omega)]
 ·rw [List.getD_eq_getElem?_getD, List.getD_eq_getElem?_getD, List.getElem?_set_ne (by omega)]
theorem val_inj {a b : List Int} {x : Int} (h : valL a x = valL b x) : a.getD x.natAbs 0 = b.getD x.natAbs 0 := by
 unfold valL at h
 rw [rd_nat, rd_nat] at h
 split at h <;> omega
theorem Ext.set {vals M : List Int} (h : Ext vals M) {x : Int} (h0 : x ≠ 0) (hx : x.natAbs < vals.length) (hM : valL M x = 1) : Ext (setL vals x) M := by
 intro i hi
 by_cases he : i = x.natAbs
 ·subst he
  exact val_inj (by rw [hM, set_val h0 hx])
 ·rw [set_other he] at hi ⊢
  exact h i hi
theorem Ext.of_set {vals : List Int} {x : Int} (h0 : x ≠ 0) (hx : x.natAbs < vals.length) (hv : valL vals x ≠ -1) (hok : ValsOK vals) : Ext vals (setL vals x) := by
 intro i hi
 by_cases he : i = x.natAbs
 ·subst he
  refine val_inj ?_
  rw [set_val h0 hx]
  rcases valL_ok hok hx with h | h | h
  ·exact absurd h hv
  ·unfold valL at h
   rw [rd_nat] at h
   split at h <;> omega
  ·exact h.symm
 ·exact set_other he
theorem idx_some (x : Int) : ∀ (l : List Int) (i : Nat), 0 ≤ idxL x l i → ∃ j : Nat, idxL x l i = ((i + j : Nat) : Int) ∧ j < l.length ∧ l.getD j 0 = x ∧ ∀ m : Nat, m < j → l.getD m 0 ≠ x
 | [], _, h => by rw [idxL] at h; omega
 | y :: r, i, h => by
  rw [idxL] at h ⊢
  by_cases hy : x = y
  ·rw [if_pos hy]
   exact ⟨0, by omega, by simp, by simpa using hy.symm, fun m hm => absurd hm (Nat.not_lt_zero _)⟩
  ·rw [if_neg hy] at h ⊢
   obtain ⟨j, h1, h2, h3, h4⟩ := idx_some x r (i + 1) h
   refine ⟨j + 1, by omega, by simpa using h2, by simpa using h3, fun m hm => ?_⟩
   rcases m with _ | m
   ·exact fun e => hy e.symm
   ·have := h4 m (by omega)
    simpa using this
theorem drop_getD (vals : List Int) (j : Nat) : (vals.drop 1).getD j 0 = vals.getD (j + 1) 0 := by
 rw [List.getD_eq_getElem?_getD, List.getD_eq_getElem?_getD, List.getElem?_drop, Nat.add_comm]
theorem open_some {vals : List Int} (h : openL vals ≠ 0) : ∃ i : Nat, openL vals = (i : Int) ∧ 1 ≤ i ∧ i < vals.length ∧ vals.getD i 0 = 0 ∧ ∀ m : Nat, 1 ≤ m → m < i → vals.getD m 0 ≠ 0 := by
 have hr := idxL_range 0 (vals.drop 1) 0
 unfold openL at h ⊢
 obtain ⟨j, h1, h2, h3, h4⟩ := idx_some 0 (vals.drop 1) 0 (by omega)
 rw [drop_getD] at h3
 rw [List.length_drop] at h2
 refine ⟨j + 1, by omega, by omega, by omega, h3, fun m hm1 hm2 => ?_⟩
 have := h4 (m - 1) (by omega)
 rwa [drop_getD, show m - 1 + 1 = m by omega] at this
def Shut (cs : List (List Int)) (W : List Int) : Prop := ∀ c ∈ cs, unitL W c 0 = (0, false)
theorem scan_zero : ∀ (W : List Int) (cs : List (List Int)) (i : Nat) (next : Int), scanL W cs i next = (none, 0) → next = 0 ∧ Shut cs W
 | _, [], _, next, h => by
  rw [scanL] at h
  exact ⟨(Prod.mk.inj h).2, fun c hc => by cases hc⟩
 | W, c :: r, i, next, h => by
  rw [scanL] at h
  by_cases hf : (unitL W c 0).2 = true
  ·rw [if_pos hf] at h
   cases (Prod.mk.inj h).1
  ·rw [if_neg hf] at h
   obtain ⟨h1, h2⟩ := scan_zero W r (i + 1) _ h
   have h0 : next = 0 := by
    by_cases h0 : next = 0
    ·exact h0
    ·rw [if_neg h0] at h1
     exact absurd h1 h0
   rw [if_pos h0] at h1
   refine ⟨h0, fun d hd => ?_⟩
   rcases List.mem_cons.1 hd with rfl | hd
   ·exact Prod.ext h1 (Bool.eq_false_iff.2 hf)
   ·exact h2 d hd
theorem unit_why {V : List Int} (hv : ValsOK V) : ∀ (c : List Int) (one : Int), LitsOK V.length c →
  ((unitL V c one).2 = true → one = 0 ∧ ∀ x ∈ c, valL V x = -1) ∧ ((unitL V c one).1 ≠ 0 → (one = 0 ∨ one = (unitL V c one).1) ∧ ∀ x ∈ c, x = (unitL V c one).1 ∨ valL V x = -1)
 | [], one, _ => by
  rw [unitL]
  exact ⟨fun h => ⟨eq_of_beq h, fun x hx => by cases hx⟩, fun _ => ⟨.inr rfl, fun x hx => by cases hx⟩⟩
 | x :: r, one, hl => by
  have hx := hl x (by simp)
  have hr : LitsOK V.length r := fun y hy => hl y (by simp [hy])
  rw [unitL, isL_val, isL_neg hx.1]
  rcases valL_ok hv hx.2 with e | e | e
  ·rw [e, if_neg (show ¬ (decide ((-1 : Int) = 1) = true) by decide), if_pos (show decide ((-1 : Int) = -1) = true by decide)]
   obtain ⟨k1, k2⟩ := unit_why hv r one hr
   refine ⟨fun h => ⟨(k1 h).1, fun y hy => ?_⟩, fun h => ⟨(k2 h).1, fun y hy => ?_⟩⟩
   ·rcases List.mem_cons.1 hy with rfl | hy
    ·exact e
    ·exact (k1 h).2 y hy
   ·rcases List.mem_cons.1 hy with rfl | hy
    ·exact .inr e
    ·exact (k2 h).2 y hy
  ·rw [e, if_neg (show ¬ (decide ((0 : Int) = 1) = true) by decide), if_neg (show ¬ (decide ((0 : Int) = -1) = true) by decide)]
   by_cases hxo : x = one
   ·rw [if_pos hxo]
    obtain ⟨k1, k2⟩ := unit_why hv r one hr
    refine ⟨fun h => absurd (hxo.trans (k1 h).1) hx.1, fun h => ⟨(k2 h).1, fun y hy => ?_⟩⟩
    rcases List.mem_cons.1 hy with rfl | hy
    ·rcases (k2 h).1 with h0 | h0
     ·exact absurd (hxo.trans h0) hx.1
     ·exact .inl (hxo.trans h0)
    ·exact (k2 h).2 y hy
   ·rw [if_neg hxo]
    by_cases h0 : one = 0
    ·rw [if_pos h0]
     obtain ⟨k1, k2⟩ := unit_why hv r x hr
     refine ⟨fun h => absurd (k1 h).1 hx.1, fun h => ⟨.inl h0, fun y hy => ?_⟩⟩
     rcases List.mem_cons.1 hy with rfl | hy
     ·rcases (k2 h).1 with h0 | h0
      ·exact absurd h0 hx.1
      ·exact .inl h0
     ·exact (k2 h).2 y hy
    ·rw [if_neg h0]
     exact ⟨fun h => absurd h (by simp), fun h => absurd rfl h⟩
  ·rw [e, if_pos (show decide ((1 : Int) = 1) = true by decide)]
   exact ⟨fun h => absurd h (by simp), fun h => absurd rfl h⟩
theorem unit_bad {W : List Int} {l : Int} (hl0 : l ≠ 0) (hl : valL W l ≠ 1) : ∀ (c : List Int) (o : Int), (o = 0 ∨ o = l) → (∀ x ∈ c, x ≠ 0) → (∀ x ∈ c, x = l ∨ valL W x = -1) → unitL W c o ≠ (0, false)
 | [], o, ho, _, _ => by
  rw [unitL]
  rcases ho with rfl | rfl
  ·simp
  ·intro h
   exact hl0 (Prod.mk.inj h).1
 | x :: r, o, ho, h0, h => by
  have hx := h0 x (by simp)
  have hr := fun o ho => unit_bad hl0 hl r o ho (fun y hy => h0 y (by simp [hy])) (fun y hy => h y (by simp [hy]))
  rw [unitL, isL_val, isL_neg hx, if_neg (by
   rw [decide_eq_true_eq]
   rcases h x (by simp) with rfl | e
   ·exact hl
   ·omega)]
  by_cases hn : valL W x = -1
  ·rw [if_pos (decide_eq_true hn)]
   exact hr o ho
  ·rw [if_neg (by rw [decide_eq_true_eq]; exact hn)]
   have hxl : x = l := (h x (by simp)).resolve_right hn
   by_cases hxo : x = o
   ·rw [if_pos hxo]
    exact hr o ho
   ·rw [if_neg hxo]
    by_cases h2 : o = 0
    ·rw [if_pos h2]
     exact hr x (.inr hxl)
    ·exact absurd (hxl.trans (ho.resolve_left h2).symm) hxo
theorem unit_down {W : List Int} : ∀ (c : List Int), (∀ x ∈ c, x ≠ 0) → (∀ x ∈ c, valL W x = -1) → unitL W c 0 = (0, true)
 | [], _, _ => rfl
 | x :: r, h0, h => by
  rw [unitL, isL_val, isL_neg (h0 x (by simp)), h x (by simp), if_neg (by decide), if_pos (by decide)]
  exact unit_down r (fun y hy => h0 y (by simp [hy])) (fun y hy => h y (by simp [hy]))
theorem unit_shut {V W : List Int} (hv : ValsOK V) (hE : Ext V W) {c : List Int} (hl : LitsOK V.length c) (hW : unitL W c 0 = (0, false)) : (unitL V c 0).2 = false ∧ ((unitL V c 0).1 ≠ 0 → valL W (unitL V c 0).1 = 1) := by
 obtain ⟨k1, k2⟩ := unit_why hv c 0 hl
 have hneg : ∀ x, valL V x = -1 → valL W x = -1 := fun x hx => (hE.val (by omega)).trans hx
 refine ⟨Bool.eq_false_iff.2 fun h => ?_, fun h => ?_⟩
 ·have := unit_down (W := W) c (fun x hx => (hl x hx).1) (fun x hx => hneg x ((k1 h).2 x hx))
  rw [hW] at this
  cases (Prod.mk.inj this).2
 ·by_cases hv1 : valL W (unitL V c 0).1 = 1
  ·exact hv1
  ·exact absurd hW (unit_bad h hv1 c 0 (.inl rfl) (fun x hx => (hl x hx).1) (fun x hx => ((k2 h).2 x hx).imp id (hneg x)))
theorem scan_shut {V W : List Int} (hv : ValsOK V) (hE : Ext V W) : ∀ (cs : List (List Int)) (i : Nat) (next : Int), (∀ c ∈ cs, LitsOK V.length c) → Shut cs W → (next ≠ 0 → valL W next = 1) → (scanL V cs i next).1 = none ∧ ((scanL V cs i next).2 ≠ 0 → valL W (scanL V cs i next).2 = 1)
 | [], _, _, _, _, h => ⟨rfl, h⟩
 | c :: r, i, next, hl, hs, h => by
  obtain ⟨h1, h2⟩ := unit_shut hv hE (hl c (by simp)) (hs c (by simp))
  rw [scanL, if_neg (by rw [h1]; exact Bool.false_ne_true)]
  refine scan_shut hv hE r (i + 1) _ (fun c hc => hl c (by simp [hc])) (fun c hc => hs c (by simp [hc])) ?_
  split
  ·exact h2
  ·exact h
theorem prop_shut (cs : List (List Int)) : ∀ (k : Nat) (vals list : List Int) (r : List Int × List Int × Int), propL cs k vals list = some r → ValsOK vals → (∀ c ∈ cs, LitsOK vals.length c) →
  (∀ W, Ext vals W → Shut cs W → r.2.2 < 0 ∧ Ext r.1 W) ∧ (r.2.2 < 0 → Shut cs r.1) ∧ Ext vals r.1 ∧ ValsOK r.1 ∧ r.1.length = vals.length ∧ r.1.count 0 ≤ vals.count 0
 | 0, _, _, _, h, _, _ => by simp [propL] at h
 | k + 1, vals, list, r, h, hv, hl => by
  rw [propL] at h
  have ho := scan_open hv cs 0 0 hl (fun e => absurd rfl e)
  have hs := fun W (hE : Ext vals W) (hS : Shut cs W) => scan_shut hv hE cs 0 0 hl hS (fun e => absurd rfl e)
  have hz := scan_zero vals cs 0 0
  generalize scanL vals cs 0 0 = q at h ho hs hz
  obtain ⟨o, next⟩ := q
  cases o with
  | some i =>
   simp only [Option.some.injEq] at h
   subst h
   exact ⟨fun W hE hS => absurd (hs W hE hS).1 (by simp), fun h => by simp only at h; omega, Ext.refl _, hv, rfl, Nat.le_refl _⟩
  | none =>
   simp only at h ho hs
   by_cases h0 : next = 0
   ·rw [if_pos h0] at h
    simp only [Option.some.injEq] at h
    subst h
    subst h0
    exact ⟨fun W hE _ => ⟨(show (-1 : Int) < 0 by decide), hE⟩, fun _ => (hz rfl).2, Ext.refl _, hv, rfl, Nat.le_refl _⟩
   ·rw [if_neg h0] at h
    by_cases h1 : list.length < 17592186044416
    ·rw [if_pos h1] at h
     have hop := ho h0
     obtain ⟨k1, k2, k3, k4, k5, k6⟩ := prop_shut cs k (setL vals next) (list ++ [next]) r h (vals_set hv _) (by rw [setL_length]; exact hl)
     have hE2 : Ext vals (setL vals next) := Ext.of_set h0 hop.1 (by omega) hv
     refine ⟨fun W hE hS => k1 W (hE.set h0 hop.1 ((hs W hE hS).2 h0)) hS, k2, hE2.trans k3, k4, by rw [k5, setL_length], ?_⟩
     have := count_set h0 hop.1 hop.2
     omega
    ·rw [if_neg h1] at h
     cases h
theorem Ext.anti {a b : List Int} (h : Ext a b) (k : Ext b a) (hl : a.length = b.length) : a = b := by
 refine List.ext_getElem hl fun i h1 h2 => ?_
 have e1 : a.getD i 0 = a[i] := by simp [List.getD, h1]
 have e2 : b.getD i 0 = b[i] := by simp [List.getD, h2]
 by_cases h0 : a.getD i 0 = 0
 ·by_cases h3 : b.getD i 0 = 0
  ·rw [← e1, ← e2, h0, h3]
  ·rw [← e1, ← e2]
   exact k i h3
 ·rw [← e1, ← e2]
  exact (h i h0).symm
structure Twin (cs : List (List Int)) (C S : List Int) : Prop where
 okC : ValsOK C
 okS : ValsOK S
 len : S.length = C.length
 le : Ext C S
 shut : ∀ W, W.length = C.length → ValsOK W → Ext C W → Shut cs W → Ext S W
theorem Twin.refl {cs : List (List Int)} {C : List Int} (h : ValsOK C) : Twin cs C C := ⟨h, h, rfl, Ext.refl _, fun _ _ _ hE _ => hE⟩
theorem Twin.prop {cs : List (List Int)} {C S : List Int} (h : Twin cs C S) (hl : ∀ c ∈ cs, LitsOK C.length c) {k k' : Nat} {li li' : List Int} {r r' : List Int × List Int × Int} (hC : propL cs k C li = some r) (hS : propL cs k' S li' = some r') :
  (r.2.2 < 0 ↔ r'.2.2 < 0) ∧ (r.2.2 < 0 → r.1 = r'.1) := by
 obtain ⟨a1, a2, a3, a4, a5, -⟩ := prop_shut cs k C li r hC h.okC hl
 obtain ⟨b1, b2, b3, b4, b5, -⟩ := prop_shut cs k' S li' r' hS h.okS (by rw [h.len]; exact hl)
 have e1 : r.2.2 < 0 → r'.2.2 < 0 ∧ Ext r'.1 r.1 := fun h1 => b1 r.1 (h.shut r.1 a5 a4 a3 (a2 h1)) (a2 h1)
 have e2 : r'.2.2 < 0 → r.2.2 < 0 ∧ Ext r.1 r'.1 := fun h1 => a1 r'.1 (h.le.trans b3) (b2 h1)
 exact ⟨⟨fun h1 => (e1 h1).1, fun h1 => (e2 h1).1⟩, fun h1 => (e2 (e1 h1).1).2.anti (e1 h1).2 (by rw [a5, b5, h.len])⟩
theorem valL_zero {V : List Int} {x : Int} (h : V.getD x.natAbs 0 = 0) : valL V x = 0 := by
 unfold valL
 rw [rd_nat, h]
 split <;> rfl
theorem Twin.child {cs : List (List Int)} {C S : List Int} (h : Twin cs C S) (hl : ∀ c ∈ cs, LitsOK C.length c) {k : Nat} {li : List Int} {r : List Int × List Int × Int} (hS : propL cs k S li = some r) {x : Int} (h0 : x ≠ 0) (hx : x.natAbs < C.length) (hz : r.1.getD x.natAbs 0 = 0) :
  Twin cs (setL C x) (setL r.1 x) := by
 obtain ⟨b1, b2, b3, b4, b5, -⟩ := prop_shut cs k S li r hS h.okS (by rw [h.len]; exact hl)
 have hCr := h.le.trans b3
 have hCz : C.getD x.natAbs 0 = 0 := by
  by_cases hc : C.getD x.natAbs 0 = 0
  ·exact hc
  ·rw [hCr _ hc] at hz
   exact absurd hz hc
 have hx2 : x.natAbs < r.1.length := by rw [b5, h.len]; exact hx
 have hC2 : Ext C (setL C x) := Ext.of_set h0 hx (by rw [valL_zero hCz]; decide) h.okC
 have hr2 : Ext r.1 (setL r.1 x) := Ext.of_set h0 hx2 (by rw [valL_zero hz]; decide) b4
 refine ⟨vals_set h.okC _, vals_set b4 _, by rw [setL_length, setL_length, b5, h.len], (hCr.trans hr2).set h0 hx (set_val h0 hx2), fun W hW hok hE hS2 => ?_⟩
 rw [setL_length] at hW
 have hW1 : valL W x = 1 := by
  rw [hE.val (by rw [set_val h0 hx]; decide), set_val h0 hx]
 exact (b1 W (h.shut W hW hok (hC2.trans hE) hS2) hS2).2.set h0 hx2 hW1
def OutOK (code : Int) (b m : Bool) : Prop := (code = 0 ∧ b = true ∧ m = false) ∨ (code = 6 ∧ b = false ∧ m = false) ∨ (code = 7 ∧ b = false ∧ m = true)
def SOK (st : List S68) : Prop := st.length ≤ 200 ∧ ∀ s ∈ st, s.f1.length ≤ 12
theorem leaf_is (ch : List Int) (st : List S68) (hst : SOK st) : ∃ (code : Int) (b m : Bool) (st' : List S68), leafG ch st = some (code, st') ∧ leafS ch st = some (b, m, st') ∧ OutOK code b m ∧ SOK st' := by
 unfold leafG leafS
 rw [if_pos hst.1, if_pos hst.1]
 by_cases h : st.length = 200 ∨ 12 < ch.length
 ·rw [if_pos h, if_pos h]
  exact ⟨7, false, true, st, rfl, rfl, .inr (.inr ⟨rfl, rfl, rfl⟩), hst⟩
 ·rw [if_neg h, if_neg h]
  refine ⟨0, true, false, _, rfl, rfl, .inl ⟨rfl, rfl, rfl⟩, ?_, fun s hs => ?_⟩
  ·have := hst.1
   rw [List.length_append, List.length_singleton]
   have : st.length ≠ 200 := fun e => h (.inl e)
   omega
  ·rcases List.mem_append.1 hs with hs | hs
   ·exact hst.2 s hs
   ·rw [List.mem_singleton.1 hs]
    show (ch.map _).length ≤ 12
    rw [List.length_map]
    have : ¬ 12 < ch.length := fun e => h (.inr e)
    omega
theorem refute_is (a : Int) (cs : List (List Int)) (hlen : cs.length * 24 ≤ 140737488351232) (ha : 0 ≤ a) (ha2 : a ≤ 40) (hcs : ∀ c ∈ cs, LitsOK (a + 1).toNat c ∧ c.length * 8 ≤ 140737488351232) :
  ∀ (n : Nat) (S : List Int) (ch : List Int) (st : List S68), S.count 0 < n → Twin cs (ch.foldl setL (List.replicate (a + 1).toNat 0)) S → ch.length + S.count 0 ≤ 1000 → SOK st →
   ∃ (code : Int) (b m : Bool) (st' : List S68), Ev (fun k => goL cs k n S ch st) (code, st') ∧ Ev (fun k => froF k a cs n ch st) (b, m, st') ∧ OutOK code b m ∧ SOK st' := by
 intro n
 induction n with
 | zero => intro S ch st h; omega
 | succ n ih =>
  intro S ch st hn hT hcl hst
  obtain ⟨C, hC⟩ : ∃ C, ch.foldl setL (List.replicate (a + 1).toNat 0) = C := ⟨_, rfl⟩
  rw [hC] at hT
  have hCl : C.length = (a + 1).toNat := by rw [← hC, foldl_len, List.length_replicate]
  have hl : ∀ c ∈ cs, LitsOK C.length c := by rw [hCl]; exact fun c hc => (hcs c hc).1
  obtain ⟨rC, ⟨KC, pC⟩, eC, lC, oC, -⟩ := run_is cs hlen C.length C [] List.count_le_length hT.okC (by omega) (by rw [hCl]; exact hcs) (by simp; omega)
  obtain ⟨rS, eS, -, lS, oS, -⟩ := run_is cs hlen S.length S [] List.count_le_length hT.okS (by rw [hT.len]; omega) (by rw [hT.len, hCl]; exact hcs) (by rw [hT.len]; simp; omega)
  have eS2 := eS
  obtain ⟨KS, pS⟩ := eS2
  obtain ⟨t1, t2⟩ := hT.prop hl (pC KC (Nat.le_refl _)) (pS KS (Nat.le_refl _))
  have eR : Ev (fun k => spec_l02Run.f k cs C) (rC.2.1, rC.2.2, rC.1) := eC
  obtain ⟨lf, lb, lm, lst, g1, g2, g3⟩ := leaf_is ch st hst
  have hlC : rC.1.length = (a + 1).toNat := by rw [lC, hCl]
  by_cases hneg : 0 ≤ rS.2.2
  ·have hnegC : 0 ≤ rC.2.2 := by
    by_cases h : rC.2.2 < 0
    ·have := t1.1 h; omega
    ·omega
   refine ⟨lf, lb, lm, lst, evc (fun k => goL.eq_2 ..) (bnd eS (ifp hneg (one g1))), evc (fun k => froF.eq_2 ..) ?_, g3⟩
   rw [hC]
   exact bnd eR (ifp hlC (ifp hnegC (one g2)))
  ·have hnegC : rC.2.2 < 0 := t1.2 (by omega)
   have hW := t2 hnegC
   rw [hW] at eR
   obtain ⟨b1, b2, b3, b4, b5, b6⟩ := prop_shut cs KS S [] rS (pS KS (Nat.le_refl _)) hT.okS (by rw [hT.len]; exact hl)
   by_cases ho : openL rS.1 = 0
   ·refine ⟨6, false, false, st, evc (fun k => goL.eq_2 ..) (bnd eS (ifn hneg (ifp ho (sm _)))), evc (fun k => froF.eq_2 ..) ?_, .inr (.inl ⟨rfl, rfl, rfl⟩), hst⟩
    rw [hC]
    exact bnd eR (ifp (hW ▸ hlC) (ifn (fun hh => by have h9 : (0 : Int) ≤ rC.2.2 := hh; omega) (ifp ho (sm _))))
   ·obtain ⟨i, e1, e2, e3, e4, -⟩ := open_some ho
    have hiC : i < C.length := by rw [← hT.len, ← b5]; exact e3
    have hz : ∀ x : Int, x.natAbs = i → Twin cs (setL C x) (setL rS.1 x) ∧ (setL rS.1 x).count 0 < n := fun x hx => by
     have hx0 : x ≠ 0 := by omega
     refine ⟨hT.child hl (pS KS (Nat.le_refl _)) hx0 (by omega) (by rw [hx]; exact e4), ?_⟩
     have := count_set (vals := rS.1) (x := x) hx0 (by omega) (valL_zero (by rw [hx]; exact e4))
     omega
    have hkid : ∀ x : Int, x.natAbs = i → ∀ st : List S68, SOK st → ∃ (code : Int) (b m : Bool) (st' : List S68), Ev (fun k => goL cs k n (setL rS.1 x) (ch ++ [x]) st) (code, st') ∧ Ev (fun k => froF k a cs n (ch ++ [x]) st) (b, m, st') ∧ OutOK code b m ∧ SOK st' := fun x hx st hst => by
     refine ih (setL rS.1 x) (ch ++ [x]) st (hz x hx).2 (by rw [List.foldl_append, hC]; exact (hz x hx).1) ?_ hst
     have := (hz x hx).2
     have hx0 : x ≠ 0 := by omega
     have := count_set (vals := rS.1) (x := x) hx0 (by omega) (valL_zero (by rw [hx]; exact e4))
     rw [List.length_append, List.length_singleton]
     omega
    obtain ⟨c1, b1', m1, s1, p1, q1, o1, k1⟩ := hkid (-(openL rS.1)) (by omega) st hst
    obtain ⟨c2, b2', m2, s2, p2, q2, o2, k2⟩ := hkid (openL rS.1) (by omega) s1 k1
    obtain ⟨lf2, lb2, lm2, lst2, g12, g22, g32⟩ := leaf_is ch s2 k2
    have hc : ch.length ≤ 4096 := by omega
    have hc4 : ch.length ≤ 4000 := by omega
    by_cases hc1 : c1 = 0
    ·have hb1 : b1' = true := by
      rcases o1 with h | h | h
      ·exact h.2.1
      ·omega
      ·omega
     by_cases hc2 : c2 = 0
     ·have hb2 : b2' = true := by
       rcases o2 with h | h | h
       ·exact h.2.1
       ·omega
       ·omega
      refine ⟨lf2, lb2, lm2, lst2, evc (fun k => goL.eq_2 ..) (bnd eS (ifn hneg (ifn ho (ifp hc (bnd (a := (0, s2)) ?_ (ifp rfl (one g12))))))), evc (fun k => froF.eq_2 ..) ?_, g32⟩
      ·exact bnd p1 (ifp hc1 (bnd p2 (ifp hc2 (sm _))))
      ·rw [hC]
       exact bnd eR (ifp (hW ▸ hlC) (ifn (fun hh => by have h9 : (0 : Int) ≤ rC.2.2 := hh; omega) (ifn ho (ifp hc4 (bnd q1 (ifp hb1 (bnd q2 (ifp hb2 (one g22)))))))))
     ·have hb2 : ¬ b2' = true := by
       rcases o2 with h | h | h
       ·omega
       ·rw [h.2.1]; decide
       ·rw [h.2.1]; decide
      refine ⟨c2, b2', m2, s2, evc (fun k => goL.eq_2 ..) (bnd eS (ifn hneg (ifn ho (ifp hc (bnd (a := (c2, s2)) ?_ (ifn hc2 (sm _))))))), evc (fun k => froF.eq_2 ..) ?_, o2, k2⟩
      ·exact bnd p1 (ifp hc1 (bnd p2 (ifn hc2 (sm _))))
      ·rw [hC]
       exact bnd eR (ifp (hW ▸ hlC) (ifn (fun hh => by have h9 : (0 : Int) ≤ rC.2.2 := hh; omega) (ifn ho (ifp hc4 (bnd q1 (ifp hb1 (bnd q2 (ifn hb2 (sm _)))))))))
    ·have hb1 : ¬ b1' = true := by
      rcases o1 with h | h | h
      ·omega
      ·rw [h.2.1]; decide
      ·rw [h.2.1]; decide
     refine ⟨c1, b1', m1, s1, evc (fun k => goL.eq_2 ..) (bnd eS (ifn hneg (ifn ho (ifp hc (bnd (a := (c1, s1)) ?_ (ifn hc1 (sm _))))))), evc (fun k => froF.eq_2 ..) ?_, o1, k1⟩
     ·exact bnd p1 (ifn hc1 (sm _))
     ·rw [hC]
      exact bnd eR (ifp (hW ▸ hlC) (ifn (fun hh => by have h9 : (0 : Int) ≤ rC.2.2 := hh; omega) (ifn ho (ifp hc4 (bnd q1 (ifn hb1 (sm _)))))))
theorem markN_is (l : List Int) (k0 : Int) (h0 : 0 ≤ k0) (h1 : k0 + (l.length : Int) ≤ 1000000000000000000) : ∃ m : List Int, m.length = l.length ∧ (∀ j : Nat, j < m.length → rd m (j : Int) = k0 + (j : Int)) ∧ Ev (fun k => laws_markIntS.f k l k0) (k0 + (l.length : Int), m) := by
 have key : ∀ (d i : Nat) (x : List Int), i + d = l.length → x.length = l.length → (∀ j : Nat, j < i → rd x (j : Int) = k0 + (j : Int)) → ∃ m : List Int, m.length = l.length ∧ (∀ j : Nat, j < m.length → rd m (j : Int) = k0 + (j : Int)) ∧ Ev (fun k => laws_markIntS.l0 k x (k0 + (i : Int)) (i : Int)) (k0 + (l.length : Int), m) := by
  intro d
  induction d with
  | zero =>
   intro i x hi hx hj
   obtain rfl : i = l.length := by omega
   exact ⟨x, hx, by rw [hx]; exact hj, stp (fun k => laws_markIntS.l0.eq_2 ..) (ifn (by omega) (sm _))⟩
  | succ d ih =>
   intro i x hi hx hj
   obtain ⟨m, m1, m2, m3⟩ := ih (i + 1) (x.set i (k0 + (i : Int))) (by omega) (by simpa using hx) (by
    intro j hlt
    by_cases e : j = i
    ·subst e
     unfold rd
     simp [List.getD, show j < x.length by omega]
    ·have := hj j (by omega)
     unfold rd at this ⊢
     simp only [Int.toNat_natCast] at this ⊢
     rw [List.getD_eq_getElem?_getD, List.getElem?_set_ne (by omega), ← List.getD_eq_getElem?_getD]
     exact this)
   refine ⟨m, m1, m2, stp (fun k => laws_markIntS.l0.eq_2 ..) (ifp (by omega) (ifp (by omega) ?_))⟩
   rw [up (by omega) (by omega : (i : Int) < (l.length : Int)) (by omega), w64 (by omega) (by omega), Int.toNat_natCast]
   rw [show ((i + 1 : Nat) : Int) = (i : Int) + 1 by omega, ← Int.add_assoc] at m3
   exact m3
 obtain ⟨m, m1, m2, m3⟩ := key l.length 0 l (by omega) rfl (fun j hj => absurd hj (Nat.not_lt_zero _))
 refine ⟨m, m1, m2, evc (fun k => laws_markIntS.f.eq_1 ..) ?_⟩
 simpa using m3
theorem heldN_is (m : List Int) (k0 : Int) (h0 : 0 ≤ k0) (h1 : k0 + (m.length : Int) ≤ 1000000000000000000) (hm : ∀ j : Nat, j < m.length → rd m (j : Int) = k0 + (j : Int)) : Ev (fun k => laws_heldIntS.f k m k0) (k0 + (m.length : Int)) := by
 have key : ∀ (d i : Nat), i + d = m.length → Ev (fun k => laws_heldIntS.l0 k m (k0 + (i : Int)) (i : Int)) (k0 + (m.length : Int)) := by
  intro d
  induction d with
  | zero =>
   intro i hi
   obtain rfl : i = m.length := by omega
   exact stp (fun k => laws_heldIntS.l0.eq_2 ..) (ifn (by omega) (sm _))
  | succ d ih =>
   intro i hi
   have := ih (i + 1) (by omega)
   rw [show ((i + 1 : Nat) : Int) = (i : Int) + 1 by omega, ← Int.add_assoc] at this
   refine stp (fun k => laws_heldIntS.l0.eq_2 ..) (ifp (by omega) (ifp (by omega) (ifp (hm i (by omega)) ?_)))
   rw [up (by omega) (by omega : (i : Int) < (m.length : Int)) (by omega), w64 (x := k0 + (i : Int) + 1) (by omega) (by omega)]
   exact this
 have := key m.length 0 (by omega)
 refine evc (fun k => laws_heldIntS.f.eq_1 ..) ?_
 simpa using this
theorem eqSt_self (m : List S68) (hl : m.length ≤ 140737488351232) (h : ∀ x ∈ m, x.f1.length ≤ 140737488351232) : Ev (fun k => laws_eqStepS.f k m m) true := by
 refine evc (fun k => laws_eqStepS.f.eq_1 ..) (ifp rfl ?_)
 refine same m (fun i k => laws_eqStepS.l0 k m m i) ?_ ?_
 ·exact stp (fun k => laws_eqStepS.l0.eq_2 ..) (ifn (by omega) (sm _))
 ·intro i x hx hk
  have hi : i < m.length := (List.getElem?_eq_some_iff.1 hx).1
  have hxl := h x (List.mem_of_getElem? hx)
  refine stp (fun k => laws_eqStepS.l0.eq_2 ..) (ifp (by omega) (ifp (by omega) (ifp (by omega) ?_)))
  rw [show rd_T68 m (i : Int) = x from getD_some hx, up (by omega) (by omega : (i : Int) < (m.length : Int)) (by omega)]
  exact bnd (ifn (by simp) (bnd (eqI_self x.f1 (by omega)) (ifp rfl (sm _)))) (ifp rfl hk)
theorem markI_ex (l : List Int) (b : Int) (h0 : 0 ≤ b) (h1 : b + (l.length : Int) ≤ 1000000000000000000) : ∃ m : List Int, laws_markIntS.f (l.length + 1) l b = some (b + (l.length : Int), m) ∧ m.length = l.length ∧ ∀ j : Nat, j < m.length → rd m (j : Int) = b + (j : Int) := by
 obtain ⟨r, hr, hrl⟩ := markI_run l.length 0 l b (by omega) h0 (by omega) (by omega)
 obtain ⟨m, m1, m2, m3⟩ := markN_is l b h0 h1
 have hr2 : laws_markIntS.f (l.length + 1) l b = some (b + (l.length : Int), r) := hr
 have key : ∀ e : Nat, laws_markIntS.f (l.length + 1 + e) l b = some (b + (l.length : Int), r) := by
  intro e
  induction e with
  | zero => exact hr2
  | succ e ih => exact laws_markIntS.mono l b (l.length + 1 + e) _ ih
 have hE : Ev (fun k => laws_markIntS.f k l b) (b + (l.length : Int), r) := ⟨l.length + 1, fun k hk => by
  obtain ⟨e, rfl⟩ := Nat.exists_eq_add_of_le hk
  exact key e⟩
 have := uniq hE m3
 obtain rfl : r = m := (Prod.mk.inj this).2
 exact ⟨r, hr2, m1, m2⟩
def sumS (l : List S68) : Nat := (l.map fun s => s.f1.length + 1).sum
theorem sumS_drop (l : List S68) (i : Nat) (h : i < l.length) : sumS (l.drop i) = (l.getD i z68).f1.length + 1 + sumS (l.drop (i + 1)) := by
 unfold sumS
 rw [List.drop_eq_getElem_cons h, List.map_cons, List.sum_cons, List.getD_eq_getElem?_getD, List.getElem?_eq_getElem h]
 rfl
theorem stepsHeld : ∀ (d kk : Nat) (ys : List S68) (b : Int), kk + d = ys.length → ys.length ≤ 10000000000000 → 0 ≤ b → b + (sumS (ys.drop kk) : Int) ≤ 100000000000000000 → ∃ M : List S68, markSTv (d + 1) ys b kk = some (b + (sumS (ys.drop kk) : Int), M) ∧ M.length = ys.length ∧ (∀ j : Nat, j < kk → M[j]? = ys[j]?) ∧ Ev (fun k => laws_heldStepS.l0 k M b (kk : Int)) (b + (sumS (ys.drop kk) : Int)) := by
 intro d
 induction d with
 | zero =>
  intro kk ys b hk hm h0 h1
  obtain rfl : kk = ys.length := by omega
  rw [List.drop_length, show sumS [] = 0 from rfl, Int.natCast_zero, Int.add_zero]
  exact ⟨ys, by rw [markSTv, if_neg (by omega)], rfl, fun _ _ => rfl, stp (fun k => laws_heldStepS.l0.eq_2 ..) (ifn (by omega) (sm _))⟩
 | succ d ih =>
  intro kk ys b hk hm h0 h1
  have hlt : kk < ys.length := by omega
  have hsum := sumS_drop ys kk hlt
  rw [hsum, Int.natCast_add] at h1
  have hw : wrap64 (b + 1) = b + 1 := w64 (by omega) (by omega)
  obtain ⟨m, e1, e2, e3⟩ := markI_ex (ys.getD kk z68).f1 (b + 1) (by omega) (by omega)
  have hdr : (ys.set kk ⟨(Int.tmod b 3) == 0, m⟩).drop (kk + 1) = ys.drop (kk + 1) := by rw [List.drop_set_of_lt (by omega)]
  obtain ⟨M, f1, f2, f3, f4⟩ := ih (kk + 1) (ys.set kk ⟨(Int.tmod b 3) == 0, m⟩) (b + 1 + ((ys.getD kk z68).f1.length : Int)) (by rw [List.length_set]; omega) (by rw [List.length_set]; exact hm) (by omega) (by rw [hdr]; omega)
  rw [hdr] at f1 f4
  rw [List.length_set] at f2
  have hMk : M[kk]? = some ⟨(Int.tmod b 3) == 0, m⟩ := by rw [f3 kk (by omega), List.getElem?_set_self hlt]
  have hs : b + ((sumS (ys.drop kk) : Nat) : Int) = b + 1 + ((ys.getD kk z68).f1.length : Int) + (sumS (ys.drop (kk + 1)) : Int) := by rw [hsum]; omega
  rw [hs]
  refine ⟨M, ?_, f2, fun j hj => by rw [f3 j (by omega), List.getElem?_set_ne (by omega)], ?_⟩
  ·rw [markSTv, if_pos hlt, hw, e1, Option.bind_some]
   simp only
   rw [if_pos e2]
   exact f1
  ·refine stp (fun k => laws_heldStepS.l0.eq_2 ..) (ifp (by omega) (ifp (by omega) ?_))
   rw [show rd_T68 M (kk : Int) = ⟨(Int.tmod b 3) == 0, m⟩ from getD_some hMk, up (by omega) (by omega : (kk : Int) < (M.length : Int)) (by omega), hw]
   refine ifn (by simp) (bnd (heldN_is m (b + 1) (by omega) (by omega) e3) (ifn (by omega) ?_))
   rw [e2]
   rw [show ((kk + 1 : Nat) : Int) = (kk : Int) + 1 by omega] at f4
   exact f4
theorem both (a : Int) (l : List (List Int)) (h : RowsOK l) : ∃ r : List S68 × Int, Ev (fun k => spec_Refutation.f k a l) r ∧ Ev (fun k => impl_Refutation.f k a l) r ∧ SOK r.1 := by
 have hnil : SOK [] := ⟨by decide, fun s hs => by cases hs⟩
 by_cases hb : cnfB a l = true
 ·obtain ⟨h0, h1, hc⟩ := cnf_lits h hb
  have hz : Twin l (List.replicate (a + 1).toNat 0) (List.replicate (a + 1).toNat 0) := Twin.refl (vals_zero _)
  obtain ⟨code, b, m, st, e1, e2, e3, e4⟩ := refute_is a l (rows_len h) h0 h1 hc 43 (List.replicate (a + 1).toNat 0) [] [] (by have := List.count_le_length (a := (0 : Int)) (l := List.replicate (a + 1).toNat 0); rw [List.length_replicate] at this; omega) hz (by have := List.count_le_length (a := (0 : Int)) (l := List.replicate (a + 1).toNat 0); rw [List.length_replicate] at this; simp only [List.length_nil]; omega) hnil
  have hfit : 0 ≤ a ∧ a ≤ 40 ∧ (l.all fun c => fitL (a + 1).toNat c) = true := ⟨h0, h1, List.all_eq_true.2 (fun c hcm => lits_fit (hc c hcm).1)⟩
  rcases e3 with ⟨rfl, rfl, rfl⟩ | ⟨rfl, rfl, rfl⟩ | ⟨rfl, rfl, rfl⟩
  ·exact ⟨(st, 0), evc (fun k => spec_Refutation.f.eq_1 ..) (bnd (specCnf_is a l h) (ifp hb (ifp ⟨h0, by omega⟩ (bnd e2 (ifp rfl (sm _)))))), evc (fun k => impl_Refutation.f.eq_1 ..) (ifp hb (ifp hfit (bnd e1 (ifp rfl (sm _))))), e4⟩
  ·exact ⟨([], 6), evc (fun k => spec_Refutation.f.eq_1 ..) (bnd (specCnf_is a l h) (ifp hb (ifp ⟨h0, by omega⟩ (bnd e2 (ifn (by simp) (ifn (by simp) (sm _))))))), evc (fun k => impl_Refutation.f.eq_1 ..) (ifp hb (ifp hfit (bnd e1 (ifn (by simp) (sm _))))), hnil⟩
  ·exact ⟨([], 7), evc (fun k => spec_Refutation.f.eq_1 ..) (bnd (specCnf_is a l h) (ifp hb (ifp ⟨h0, by omega⟩ (bnd e2 (ifn (by simp) (ifp rfl (sm _))))))), evc (fun k => impl_Refutation.f.eq_1 ..) (ifp hb (ifp hfit (bnd e1 (ifn (by simp) (sm _))))), hnil⟩
 ·exact ⟨([], 1), evc (fun k => spec_Refutation.f.eq_1 ..) (bnd (specCnf_is a l h) (ifn hb (sm _))), evc (fun k => impl_Refutation.f.eq_1 ..) (ifn hb (sm _)), hnil⟩
theorem sumS_le (l : List S68) (h : SOK l) : sumS l ≤ 2600 := by
 have key : ∀ M : List S68, (∀ s ∈ M, s.f1.length ≤ 12) → sumS M ≤ 13 * M.length := by
  intro M
  induction M with
  | nil => intro _; exact Nat.zero_le _
  | cons c r ih =>
   intro hM
   have h1 := ih (fun c hc => hM c (List.mem_cons_of_mem _ hc))
   have h2 := hM c List.mem_cons_self
   unfold sumS at h1 ⊢
   simp only [List.map_cons, List.sum_cons, List.length_cons]
   omega
 have := key l h.2
 have := h.1
 omega
theorem FnExactRefutation : laws_FnExactRefutation.Pure := by
 intro a l ha hl
 refine Ev.rounds ?_
 refine evc (fun k => laws_FnExactRefutation.f.eq_1 ..) ?_
 obtain ⟨t, ht, hsz, hsum⟩ := szCnf_sum a l hl 1048576 (by decide) (by decide)
 refine bnd hsz ?_
 by_cases h : t < 0
 ·exact ifp h (sm _)
 have hsl := hsum (by omega)
 obtain ⟨⟨s1, s2⟩, hsp, him, hok⟩ := both a l hl
 have hs12 := sumS_le s1 hok
 have hs200 : s1.length ≤ 200 := hok.1
 obtain ⟨M, f1, f2, _, f4⟩ := stepsHeld s1.length 0 s1 1 (by omega) (by omega) (by decide) (by rw [List.drop_zero]; omega)
 rw [List.drop_zero] at f1 f4
 have hheld : Ev (fun k => laws_heldStepS.f k M 1) (1 + (sumS s1 : Int)) := evc (fun k => laws_heldStepS.f.eq_1 ..) f4
 refine ifn h (bnd (toCnf_is a l hl) (bnd hsp (bnd him (bnd (eqSt_self s1 (by omega) (fun x hx => by have := hok.2 x hx; omega)) (bnd (eqCnf_self a l hl) (bnd0 f1 (bnd hheld ?_)))))))
 exact ifp ⟨rfl, rfl, rfl, rfl, rfl, by omega, by omega⟩ (sm _)
end Go.Proofs.Ytelfahcjeldliaa.Pure
end
