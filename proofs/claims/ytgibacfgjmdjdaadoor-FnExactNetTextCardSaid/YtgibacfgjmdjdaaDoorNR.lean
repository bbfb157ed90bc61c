/- FnExactNetText: for every input the law returns true: the program's text of a network is the reference's; the tables that it reads are tied to the program's text. Conditions: the form's own reach alone. -/
import Derived.Test.YtgibacfgjmdjdaaDoorRows
import Derived.Test.YtgibacfgjmdjdaaDoorTie
import Derived.Test.YtgibacfgjmdjdaaDoorCards
import Derived.Lib.LaidTab
import Derived.OpenVars
import Derived.Deep.DeepHandedRow
import Derived.Test.YtgibacfgjmdjdaaDoorNP
import Derived.WalkKit
import Derived.ProofKit
import Derived.OpenShut
import Derived.ShutString
import Derived.ChangeOld
import Derived.Below
import Derived.SizedLaws
set_option linter.unusedVariables false
set_option linter.unusedSimpArgs false
namespace Go.Proofs.YtgibacfgjmdjdaaDoor.fnExactNetText
open Go.ChangeShapes Go.WideShapes Go.ChangeAt Go.RowKit Go.Proofs.YtgibacfgjmdjdaaDoor.PFnExactIsStable Go.Proofs.YtgibacfgjmdjdaaDoorW.PrintWords
open Go.ChangeMaps (open_string shut_string)
theorem own : ownKnob Tryd.prog.godebug = none := by kernel_rfl
theorem laidOut : laidOutB Tryd.prog = true := by kernel_rfl
theorem gT : Tryd.prog.globalNamed "internal/strconv.uint64pow10" = some 2 := by kernel_rfl
theorem gTt : (Tryd.prog.globals[2]?).map (·.type) = some 118 := by kernel_rfl
theorem gW : Tryd.prog.globalNamed "loop.example/g00159/impl.whenTexts" = some 0 := by kernel_rfl
theorem gWt : (Tryd.prog.globals[0]?).map (·.type) = some 93 := by kernel_rfl
theorem cells93 : Tryd.prog.cellsOf 93 = 3 := by kernel_rfl
theorem cells9 : Tryd.prog.cellsOf 9 = 1 := by kernel_rfl
def words : List (List UInt8) := [[], [32, 105, 102, 32, 109, 97, 114, 107], [32, 105, 102, 32, 112, 108, 97, 105, 110]]
/-- an array of texts that reads as the list of words holds the words -/
theorem cells_of_words {H : Type} {enc : TypeId × Value → H} {P : Program} {w : World} {base : Nat} {sp : Nat → Bool} {held : Bool} {fuel : Nat} {t e : TypeId} {n : Nat} {cs : List Value} {zs : List (List UInt8)} {p : List MemPlace}
    (ht : P.underlying t = some (.array n e)) (he : P.underlying e = some .string) (hce : P.cellsOf e = 1) (hct : P.cellsOf t = n)
    (h : DataW.trod enc P w base sp held fuel t cs = some (.agg (zs.map fun z => .lit (.string z)), p)) : cs = zs.map fun z => Value.string ⟨z.toArray⟩ := by
  cases fuel with
  | zero => simp [DataW.trod] at h
  | succ fuel =>
    simp only [DataW.trod, ht, hce, hct, Nat.mul_one] at h
    split at h
    · rename_i hl
      obtain ⟨xs, hm, hx⟩ := Option.map_eq_some_iff.1 h
      have hxs : xs.map (·.1) = zs.map fun z => (DataW.lit (.string z) : DataW H) := by
        have := congrArg Prod.fst hx
        simpa using this
      have hxl : xs.length = n := by simpa using Lib.mapM_length hm
      have hzl : zs.length = n := by
        have := congrArg List.length hxs
        simp at this
        omega
      apply List.ext_getElem?
      intro i
      by_cases hi : i < n
      · obtain ⟨b, hb, hf⟩ := Lib.mapM_at hm i i (by simp [hi])
        obtain ⟨z, hc, rfl, _⟩ := DataW.trod_string he hf
        have h1 : cs[i]? = some (.string z) := by
          have := congrArg (·[0]?) hc
          simpa [List.getElem?_take, List.getElem?_drop] using this
        have h2 : (xs.map (·.1))[i]? = some (DataW.lit (.string z.data.toList) : DataW H) := by simp [hb]
        rw [hxs] at h2
        simp only [List.getElem?_map, Option.map_eq_some_iff, DataW.lit.injEq, Lit.string.injEq] at h2
        obtain ⟨z', hz', rfl⟩ := h2
        simp [h1, hz']
      · rw [List.getElem?_eq_none (by omega), List.getElem?_eq_none (by simp; omega)]
    · cases h

theorem tabOf {W : World} (h : laidMet Tryd.prog Rows.fnExactNetTextRow.laid W) : Tab W := by
  obtain ⟨ps, ⟨_, _, _, _, _, _, _, _, _, _, ⟨_, _, _, _, _, _, _, _, _, _, ⟨g', t', cs, fuel, p, q, hg', ht', hvar, hd, _, _⟩, _⟩, _⟩, _⟩ := h
  obtain rfl := Option.some.inj (gT.symm.trans hg')
  obtain rfl := Option.some.inj (gTt.symm.trans ht')
  unfold Tab Lib.TabIs
  rw [hvar, ← Lib.cells_of_tab (zs := Lib.pow10Tab) (k := .u64) Tryd.underlying118 Tryd.underlying111 (by kernel_rfl) (by kernel_rfl) hd]
theorem wtOf {W : World} (h : laidMet Tryd.prog Rows.fnExactNetTextRow.laid W) : WT W := by
  obtain ⟨ps, ⟨_, _, _, _, _, _, _, _, _, _, ⟨_, _, _, _, _, _, _, _, _, _, ⟨_, _, _, _, _, _, _, _, _, _, ⟨g', t', cs, fuel, p, q, hg', ht', hvar, hd, _, _⟩, _⟩, _⟩, _⟩, _⟩ := h
  obtain rfl := Option.some.inj (gW.symm.trans hg')
  obtain rfl := Option.some.inj (gWt.symm.trans ht')
  have hc := cells_of_words (zs := words) Tryd.underlying93 Tryd.underlying9 cells9 cells93 hd
  have hn : ∀ n, W.cell? ⟨0, n, none⟩ = (words.map fun z => Value.string ⟨z.toArray⟩)[n]? := fun n => by
    have := World.var?_cell gW hvar n
    rw [this, show cs[n]? = cs.toList[n]? by simp, hc]
  exact ⟨hn 0, hn 1, hn 2⟩
def cellOf : DataW Unit → Value
  | .lit (.int k n) => .int k n
  | .lit (.string b) => .string ⟨b.toArray⟩
  | _ => .nilIface
def cellsOfAgg : DataW Unit → Array Value
  | .agg l => (l.map cellOf).toArray
  | _ => #[]
def fillB (d : DataW Unit) : Obj → Obj
  | .cells _ t frozen => .cells (cellsOfAgg d) t frozen
  | o => o
noncomputable def laidWorld (os : Os) : World :=
  { World.holding Tryd.prog os ⟨#[], #[], []⟩ with heap := ((((World.holding Tryd.prog os ⟨#[], #[], []⟩).heap.modify 2 (fillB Rows.laid_internal_strconv_uint64pow10)).modify 3 (fillB Rows.laid_math_bits_deBruijn32tab)).modify 4 (fillB Rows.laid_math_bits_deBruijn64tab)).modify 0 (fillB Rows.laid_loop_example_g00159_impl_whenTexts) }
theorem laid_met (os : Os) : laidMet Tryd.prog Rows.fnExactNetTextRow.laid ((laidWorld os).forCall (fun _ _ => 0) ⟨#[], #[.agg #[.slice none 0 0, .slice none 0 0, .slice none 0 0, .slice none 0 0, .slice none 0 0, .slice none 0 0]], []⟩).memory :=
  laidMet_of_run' 100 (by kernel_rfl) (by kernel_rfl)
theorem reads (os : Os) {H : Type} (enc : TypeId × Value → H) : DataW.whole enc Tryd.prog ((laidWorld os).forCall (fun _ _ => 0) ⟨#[], #[.agg #[.slice none 0 0, .slice none 0 0, .slice none 0 0, .slice none 0 0, .slice none 0 0, .slice none 0 0]], []⟩).memory Tryd.f3.params.toList Rows.fnExactNetTextSpec.vars false (#[.agg #[.slice none 0 0, .slice none 0 0, .slice none 0 0, .slice none 0 0, .slice none 0 0, .slice none 0 0]] : Array Value).toList 40 = some ([.agg [.nil, .nil, .nil, .nil, .nil, .nil]], [Rows.laid_loop_example_g00159_impl_whenTexts], MemPlace.row ⟨0, 0, none⟩ 3) := by kernel_rfl
set_option maxRecDepth 100000 in
theorem lifted (os : Os) (started : os.Started) (H : Type) (enc : TypeId × Value → H) (Fi : Stop.Interp) :
    ReturnsInHanded {} Tryd.checked os 3 .any ((OpenSpec.ofChange Rows.fnExactNetTextSpec).preRow enc Tryd.prog Tryd.f3 Rows.fnExactNetTextRow.domain false Rows.fnExactNetTextRow.laid) (((OpenSpec.ofChange Rows.fnExactNetTextSpec).at Fi).post enc Tryd.prog Tryd.f3 false true false false) := by
  refine returnsInHanded_of_row (C := Tryd.checked) (s := OpenSpec.ofChange Rows.fnExactNetTextSpec) own started (by kernel_rfl) Tryd.func3
    (witness_row_at (enc := enc) (C := Tryd.checked) false (laidWorld os) #[.agg #[.slice none 0 0, .slice none 0 0, .slice none 0 0, .slice none 0 0, .slice none 0 0, .slice none 0 0]] rfl (by kernel_rfl) (by kernel_rfl) (by kernel_rfl)
      (OpenSpec.preRow_of_cond 40 (reads os enc) (by kernel_rfl) (fun k hk => by cases hk) (by kernel_rfl) (laid_met os))) ?_
  intro W base args ds gs before hval0 hW _ _ hsz0 hL _ _
  have hsz : (DataW.weightsEach Tryd.prog (Tryd.f3.params.toList ++ (OpenSpec.ofChange Rows.fnExactNetTextSpec).bare.plain.varTypes Tryd.prog) (ds ++ gs)).all (· ≤ reachBytes) = true := hsz0
  have hval : ∀ (j : Nat) t v, Tryd.f3.params[j]? = some t → args[j]? = some v → Value.okWide Tryd.prog W .any base t v := hval0
  have hW' := hW
  obtain ⟨p, q, hA0, hV, rfl, hfz, hnd⟩ := hW
  have hA : DataW.TrodAll enc Tryd.prog W 0 (fun _ => true) true Tryd.f3.params.toList args.toList ds p := hA0
  rw [Tryd.params3] at hA hval hsz
  obtain ⟨v0, vs0, d0, ds0, p0, q0, hargs, rfl, rfl, h0, r0⟩ := trodAll_cons hA
  obtain ⟨rfl, rfl, rfl⟩ := trodAll_nil r0
  obtain rfl : args = #[v0] := by cases args; simp_all
  obtain ⟨gv, tv, csv, fuelv, dv, pv, rfl, hgv, htv, hvarv, hdv, rfl⟩ := trodVars_one hV
  obtain ⟨cs0, rfl, z0⟩ := okWide_struct Tryd.underlying28 (hval 0 28 v0 rfl rfl)
  have k0 := h0
  have lt0 : ∀ x ∈ p0, x.block < W.heap.size := by obtain ⟨m, hm⟩ := k0; exact DataW.trod_lt m _ _ _ hm
  obtain ⟨x0, K0, w0⟩ := Reads.arg (j := 0) (t := 28) (k := Kd.iso (Kd.pair (Kd.slice 9 Kd.string) (Kd.pair (Kd.slice 70 k107) (Kd.pair (Kd.slice 3 (Kd.int .i64)) (Kd.pair (Kd.slice 3 (Kd.int .i64)) (Kd.pair (Kd.slice 72 k109) (Kd.slice 74 k111)))))) (fun x : (List ByteArray) × (List (S107)) × (List Int) × (List Int) × (List (S109)) × (List (S111)) => x)) (wf := fun p : (List ByteArray) × (List (S107)) × (List Int) × (List Int) × (List (S109)) × (List (S111)) => (Reads.WFL 16 Reads.WFS) p.1 ∧ ((Reads.WFL 24 wf107) p.2.1 ∧ ((Reads.WFL 8 Reads.WFI) p.2.2.1 ∧ ((Reads.WFL 8 Reads.WFI) p.2.2.2.1 ∧ ((Reads.WFL 40 wf109) p.2.2.2.2.1 ∧ ((Reads.WFL 32 wf111) p.2.2.2.2.2)))))) (fun _ => Reads.struct (wf := fun p : (List ByteArray) × (List (S107)) × (List Int) × (List Int) × (List (S109)) × (List (S111)) => (Reads.WFL 16 Reads.WFS) p.1 ∧ ((Reads.WFL 24 wf107) p.2.1 ∧ ((Reads.WFL 8 Reads.WFI) p.2.2.1 ∧ ((Reads.WFL 8 Reads.WFI) p.2.2.2.1 ∧ ((Reads.WFL 40 wf109) p.2.2.2.2.1 ∧ ((Reads.WFL 32 wf111) p.2.2.2.2.2)))))) (fun x : (List ByteArray) × (List (S107)) × (List Int) × (List Int) × (List (S109)) × (List (S111)) => x) (fun p => p) (fun _ => rfl) Tryd.underlying28 (by kernel_rfl) (fun m _ => (Reads.more rfl (by kernel_rfl) ((Reads.sliceR (t := 22) (e := 9) Tryd.underlying22 (by kernel_rfl) (by kernel_rfl) (Reads.stringR Tryd.underlying9)) m) (Reads.more rfl (by kernel_rfl) ((Reads.sliceR (t := 23) (e := 70) Tryd.underlying23 (by kernel_rfl) (by kernel_rfl) rk107) m) (Reads.more rfl (by kernel_rfl) ((Reads.sliceR (t := 24) (e := 3) Tryd.underlying24 (by kernel_rfl) (by kernel_rfl) (Reads.intR Tryd.underlying3)) m) (Reads.more rfl (by kernel_rfl) ((Reads.sliceR (t := 24) (e := 3) Tryd.underlying24 (by kernel_rfl) (by kernel_rfl) (Reads.intR Tryd.underlying3)) m) (Reads.more rfl (by kernel_rfl) ((Reads.sliceR (t := 25) (e := 72) Tryd.underlying25 (by kernel_rfl) (by kernel_rfl) rk109) m) (Reads.last rfl (by kernel_rfl) ((Reads.sliceR (t := 26) (e := 74) Tryd.underlying26 (by kernel_rfl) (by kernel_rfl) rk111) m))))))))) hsz rfl rfl h0
  obtain ⟨_, _, e0, ⟨A0_0, c0_0, rfl, hc0_0, hr0_0⟩, ⟨_, _, rfl, ⟨A0_1, c0_1, rfl, hc0_1, hr0_1⟩, ⟨_, _, rfl, ⟨A0_2, c0_2, rfl, hc0_2, hr0_2⟩, ⟨_, _, rfl, ⟨A0_3, c0_3, rfl, hc0_3, hr0_3⟩, ⟨_, _, rfl, ⟨A0_4, c0_4, rfl, hc0_4, hr0_4⟩, ⟨A0_5, c0_5, rfl, hc0_5, hr0_5⟩⟩⟩⟩⟩⟩ := K0
  obtain rfl : cs0 = #[.slice A0_0 x0.1.length c0_0, .slice A0_1 x0.2.1.length c0_1, .slice A0_2 x0.2.2.1.length c0_2, .slice A0_3 x0.2.2.2.1.length c0_3, .slice A0_4 x0.2.2.2.2.1.length c0_4, .slice A0_5 x0.2.2.2.2.2.length c0_5] := by
    apply Array.toList_inj.1
    exact e0
  clear hA0 hval0 hsz0 hsz
  obtain ⟨k, h, hF⟩ := Pure.FnExactNetText x0.1 x0.2.1 x0.2.2.1 x0.2.2.2.1 x0.2.2.2.2.1 x0.2.2.2.2.2 (w0.1) (w0.2.1) (w0.2.2.1) (w0.2.2.2.1) (w0.2.2.2.2.1) (w0.2.2.2.2.2)
  refine (laws_FnExactNetText.calls k _ _ x0.1 _ _ x0.2.1 _ _ x0.2.2.1 _ _ x0.2.2.2.1 _ _ x0.2.2.2.2.1 _ _ x0.2.2.2.2.2 true W (tabOf hL) (wtOf hL) hF hr0_0 hc0_0 hr0_1 hc0_1 hr0_2 hc0_2 hr0_3 hc0_3 hr0_4 hc0_4 hr0_5 hc0_5 h).mono ?_
  rintro e W' ⟨rfl, bel⟩
  exact ⟨_, rfl, _, _, _, [], _, _, hW', trodAll_mk1 (shut_bool Tryd.underlying4 _), (trodAll_cons_mk (Below.trod laidOut (by kernel_rfl) (of_decide_eq_true (by kernel_rfl)) k0 bel lt0) trodAll_mk0), Below.trodVars (by kernel_rfl) bel (by kernel_rfl) hV, bel.frame _, fun h => by cases h⟩
theorem said : Rows.FnExactNetTextSaid :=
  OpenClaim.holds_of_cond 3 Tryd.f3 rfl rfl rfl rfl rfl rfl rfl ⟨rfl, rfl, rfl, rfl, rfl⟩ rfl rfl rfl rfl rfl (by kernel_rfl) Tryd.func3 (by kernel_rfl)
    (of_decide_eq_true (by kernel_rfl)) (by unfold Func.isWrapper; first | (rw [if_pos (by decide +kernel)]; kernel_rfl) | (rw [if_neg (by decide +kernel)]; exact ⟨rfl, rfl⟩))
    (fun os started H enc _ Fi => by rw [OpenClaim.pre_eq_preRow]; exact lifted os started H enc Fi)
theorem plain (f : FuncId) (fn : Func) (hf : Tryd.pinned.checked.prog.funcNamed "loop.example/g00159/laws.FnExactNetText" = some f) (hfn : Tryd.pinned.checked.prog.funcs[f]? = some fn) :
    false = Tryd.pinned.checked.prog.looks [] ∧ ∀ (j : Nat) t, fn.params[j]? = some t → Tryd.pinned.checked.prog.wantsStandIn t = false := by
  obtain rfl : f = 3 := Option.some.inj ((show Tryd.prog.funcNamed "loop.example/g00159/laws.FnExactNetText" = some 3 by kernel_rfl).symm.trans hf) |>.symm
  obtain rfl : fn = Tryd.f3 := (Option.some.inj (Tryd.func3.symm.trans hfn)).symm
  refine ⟨by kernel_rfl, fun j t ht => ?_⟩
  rw [Tryd.params3] at ht
  obtain rfl : t = 28 := by simpa using Array.mem_of_getElem? ht
  exact (show Tryd.prog.wantsStandIn 28 = false by kernel_rfl)
theorem card : Rows.FnExactNetTextCardSaid :=
  Claim7.holds_tied_plain_at .later [] _ _ _ _ said (fun _ h => by cases h) (by kernel_rfl) (fun _ h => by cases h) fnExactNetText_row_tie rfl ⟨rfl, rfl⟩ (by kernel_rfl) rfl plain (by kernel_rfl)
end Go.Proofs.YtgibacfgjmdjdaaDoor.fnExactNetText
namespace Go.Proofs.YtgibacfgjmdjdaaDoor
/-- The card, under a short name, for the claim. -/
theorem fnExactNetText_holds : Rows.FnExactNetTextCardSaid := fnExactNetText.card
#print axioms fnExactNetText_holds
end Go.Proofs.YtgibacfgjmdjdaaDoor
