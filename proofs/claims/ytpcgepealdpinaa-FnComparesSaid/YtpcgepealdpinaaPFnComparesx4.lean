/- WRITTEN BY A PROGRAM OF THIS SESSION (wip/xprint) OVER THE KIT's PRINT, FOR THIS CLAIM: for Go functions that the law reaches, one Lean function each and the proof that Go's call comes to its answer. No conditions but those that each theorem names. -/
import Derived.Test.YtpcgepealdpinaaPFnComparesx0
import Derived.Test.YtpcgepealdpinaaPFnComparesx2
import Derived.Test.YtpcgepealdpinaaPFnComparesx6
namespace Go.Proofs.Ytpcgepealdpinaa.PFnCompares
open Go.RowKit Go.Proofs.YtpcgepealdpinaaW.PrintWords Go.Proofs.YtpcgepealdpinaaW.PrintLast Go.Proofs.YtpcgepealdpinaaW.PrintMore
attribute [local go_sem] max2_int min2_int max_two min_two max_three min_three max_four min_four   -- for this text's walks alone
set_option linter.unusedVariables false
set_option linter.unusedSimpArgs false

/-! ### impl_lessEx: function 14 -/
/-! ### A region that draws its order, shown for all orders at once: what an operation makes depends on what it waits for alone -/
section
variable {P : Program} {ops : Array Oper} {Q : Exit → Act → World → Prop}
end
/-! ### expressions as values, wherever they lie -/
section
variable {ops : Array Oper} {Q : Exit → Act → World → Prop} {o : Oper} {b : Act} {W : World} {K : Act → World → Prop} {s s1 s2 s3 : Tmp}
end
def lessAcc : List S27 → List S27 → S27 → S27
  | [], _, e => e
  | _ :: _, [], e => e
  | x :: r, y :: s, e => lessAcc r s ⟨5, 0, [⟨4, 0, [⟨3, 0, [x]⟩, y]⟩, ⟨4, 0, [⟨3, 0, [⟨6, 0, [x, y]⟩]⟩, e]⟩]⟩
def lessE (a b : List S27) : S27 := lessAcc a b ⟨2, 0, []⟩
def less_T : Bool × List (List Nat × List Nat) := (true, [([], []), ([], []), ([0, 1], [0, 1]), ([2], [2]), ([3], [3]), ([4], [4]), ([], []), ([], []), ([6, 7], [6, 7]), ([8], [8]), ([5, 9], [5, 9]), ([10, 5], [10]), ([], []), ([], []), ([12, 13], [12, 13]), ([14], [14]), ([], []), ([], []), ([16, 17], [16, 17]), ([18], [18]), ([15, 19], [15, 19]), ([20, 11], [20]), ([21], [21]), ([22, 21], [22]), ([], []), ([23, 24], [23, 24]), ([25, 23], [25]), ([11, 26], [11, 26]), ([27, 26], [27]), ([28, 28, 0, 1, 2, 3, 4, 5, 6, 7, 8, 9, 10, 11, 12, 13, 14, 15, 16, 17, 18, 19, 20, 21, 22, 23, 24, 25, 26, 27, 28], [28])])
theorem less_tab : rtab .any (opsOf Try.f14 5) = less_T := by kernel_rfl
set_option maxHeartbeats 4000000 in
set_option maxRecDepth 100000 in
theorem less_any (ok : Nat → Prop) (va vb : Value) (a b : List S27) (hlen : a.length ≤ b.length) (w : World) (ha : EXs ok w va a) (hb : EXs ok w vb b) (hok : ∀ k, w.heap.size ≤ k → ok k) :
    Calls Try.prog 14 #[va, vb] w fun e w' => ∃ u, e = .returned u ∧ EXv ok w' u (lessE a b) ∧ Below w.heap.size w w' := by
  have hu27 := Try.underlying27
  have hu24 := Try.underlying24
  obtain ⟨Aa, ca, rfl, la, Fa⟩ := ha
  obtain ⟨Ab, cb, rfl, lb, Fb⟩ := hb
  have HA := Aside0.mk (show EXs (fun k => ok k ∧ k < w.heap.size) w (.slice Aa a.length ca) a from ⟨_, _, rfl, la, Kd.F_bound Fa⟩)
  have HBb := Aside0.mk (show EXs (fun k => ok k ∧ k < w.heap.size) w (.slice Ab b.length cb) b from ⟨_, _, rfl, lb, Kd.F_bound Fb⟩)
  have hma : a.length ≤ 9223372036854775807 := Kd.F_max Fa
  have hmb : b.length ≤ 9223372036854775807 := Kd.F_max Fb
  have HB := Aside0.mk (Below.refl w.heap.size w)
  clear Fa Fb la lb
  go_enter Try.func14, Try.ntmps14
  go_upto_region 1 with (first | ((with_reducible refine gate_dst (N := 4) rfl ?_); refine box_event ?hg (N := 4) ?hd (cs := #[.int .i64 0, .int .i64 0, .slice none 0 0]) (t := 27) ?hr ?_; (case hd => rfl); (case hg => rfl); (case hr => first | (go_simp; done) | (go_simp; rfl)); intro gr hgw wb hbox hbb; have HR := Aside0.mk (And.intro hbox (show w.heap.size ≤ gr by rw [hgw]; exact HB.out.size)); have hb_ := hbb; clear hbox hgw; have mB_ := Aside0.mk (HB.out.trans (hb_.mono HB.out.size)); clear HB; have HB := mB_; clear mB_; clear hb_ hbb))
  go_wp2_with (first
    | (go_at_call 11; refine (impl_constEx.calls 0 2 0 [] _ rfl).mono ?_; rintro e w1 ⟨v0, rfl, hr0, hb0⟩; have HB0 := Aside0.mk HB.out.size; have HR0 := Aside0.mk (blk_lt HR.out.1); have mB_ := Aside0.mk (HB.out.trans (hb0.mono HB.out.size)); clear HB; have HB := mB_; clear mB_; have mR_ := Aside0.mk (And.intro (blk_below HR.out.1 hb0) HR.out.2); clear HR; have HR := mR_; clear mR_; have H0 := Aside0.mk (show EXv (fun k => (ok k ∧ k ≠ gr)) w1 (.agg #[.int .i64 2, .int .i64 0, v0]) ⟨2, 0, []⟩ from EXv.of (b := 0) (Kd.R_V (Kd.R_mono (Kd.R_bound hr0) (fun k_ hk_ => ⟨hok k_ (Nat.le_trans HB0.out hk_.2.1), Nat.ne_of_gt (Nat.lt_of_lt_of_le HR0.out hk_.2.1)⟩)))); obtain ⟨A0, c0, e0⟩ := Kd.R_slice hr0; subst e0; clear hr0 hb0)
    | ((with_reducible refine gate_dst (N := 5) rfl ?_); refine box_event ?hg (N := 5) ?hd (cs := #[.int .i64 0, .int .i64 0, .slice none 0 0]) (t := 27) ?hr ?_; (case hd => rfl); (case hg => rfl); (case hr => first | (go_simp; done) | (go_simp; rfl)); intro g hgw wb hbox hbb; have HG0 := Aside0.mk hbox; have HG := Aside0.mk (show w.heap.size ≤ g by rw [hgw]; exact HB.out.size); have HGe := Aside0.mk hgw; have HRG := Aside0.mk (show gr ≠ g by rw [hgw]; exact Nat.ne_of_lt (blk_lt HR.out.1)); have hb_ := hbb; clear hbox hgw; have mB_ := Aside0.mk (HB.out.trans (hb_.mono HB.out.size)); clear HB; have HB := mB_; clear mB_; have mR_ := Aside0.mk (And.intro (blk_below HR.out.1 hb_) HR.out.2); clear HR; have HR := mR_; clear mR_; have m0_ := Aside0.mk (show EXv (fun k => (ok k ∧ k ≠ gr) ∧ k ≠ g) wb _ _ from EXv.move (W := w1) (by obtain ⟨A_, c_, e_, l_, F_⟩ := H0.out; exact ⟨A_, c_, e_, l_, Kd.F_mono (Kd.F_bound F_) (fun k_ hk_ => ⟨hk_.1, by rw [HGe.out]; exact Nat.ne_of_lt hk_.2⟩)⟩) hb_); clear H0; have H0 := m0_; clear m0_ hb_ hbb)
    | ((with_reducible refine gate_store (t := 27) (p := 5) rfl ?_); have hc0 := (blk_cell HG0.out 0).trans (show _ = some (.int .i64 0) from rfl); have hc1 := (blk_cell HG0.out 1).trans (show _ = some (.int .i64 0) from rfl); have hc2 := (blk_cell HG0.out 2).trans (show _ = some (.slice none 0 0) from rfl); have hf0 := blk_frozen HG0.out 0; have hf1 := blk_frozen HG0.out 1; have hf2 := blk_frozen HG0.out 2; refine store_event (t := 27) (p := 5) (v := ?vo) (w1 := ((wb.setCell ⟨g, 0, none⟩ (.int .i64 2)).setCell ⟨g, 1, none⟩ (.int .i64 0)).setCell ⟨g, 2, none⟩ (.slice A0 0 c0)) ?hg ?ho ?hn ?hr ?_; (case ho => rfl); (case hg => rfl); (case hn => rfl); (case hr => first | (go_simp; done) | (go_simp; rfl)); clear hc0 hc1 hc2 hf0 hf1 hf2; intro w2 hw_; obtain ⟨hbk, hkb⟩ := box_put3 (a := .int .i64 2) (b := .int .i64 0) (v := .slice A0 0 c0) HG0.out; rw [← hw_] at hbk hkb; clear hw_))
  have HL := Aside0.mk (show EXv (fun k => (ok k ∧ k ≠ gr) ∧ k ≠ g) w2 (.agg #[.int .i64 2, .int .i64 0, .slice A0 0 c0]) ⟨2, 0, []⟩ from EXv.kept H0.out hkb.kept (fun k hk hs => hk.2 hs))
  have HR2 := Aside0.mk (blk_kept HR.out.1 hkb.kept (fun h => HRG.out h))
  have HB2 := Aside0.mk (hkb.below _ HB.out HG.out)
  have HRl := Aside0.mk HR.out.2
  have HA2 := Aside0.mk (EXs.move HA.out HB2.out)
  have HC2 := Aside0.mk (EXs.move HBb.out HB2.out)
  have HBK := Aside0.mk hbk
  clear HA HBb HB HR HG0 HGe H0 hkb hbk
  
  go_loopg [10] a.length (fun gg vi wr => ∃ (kk : Nat) (e : S27) (A : Option Addr) (c : Nat), vi = .int .i64 kk ∧ kk ≤ a.length ∧ a.length - kk ≤ gg ∧ Aside0 (lessAcc (a.drop kk) (b.drop kk) e = lessE a b) ∧ Aside0 (wr.heap[g]? = some (.cells #[.int .i64 e.f0, .int .i64 e.f1, .slice A e.f2.length c] 27 (0, 0))) ∧ Aside0 (wr.heap[gr]? = some (.cells #[.int .i64 0, .int .i64 0, .slice none 0 0] 27 (0, 0))) ∧ Aside0 (EXv (fun k => (ok k ∧ k ≠ gr) ∧ k ≠ g) wr (.agg #[.int .i64 e.f0, .int .i64 e.f1, .slice A e.f2.length c]) e) ∧ Aside0 (EXs (fun k => ok k ∧ k < w.heap.size) wr (.slice Aa a.length ca) a) ∧ Aside0 (EXs (fun k => ok k ∧ k < w.heap.size) wr (.slice Ab b.length cb) b) ∧ Aside0 (Below w.heap.size w wr))
  case atStart => exact ⟨0, ⟨2, 0, []⟩, A0, c0, rfl, Nat.zero_le _, by omega, ⟨by rw [List.drop_zero, List.drop_zero]; rfl⟩, HBK, HR2, HL, HA2, HC2, HB2⟩
  case round =>
    clear HL HR2 HB2 HA2 HC2 HBK
    obtain ⟨kk, e, A, c, rfl, hk, hgm, HE, HBK, HR, HL, HA, HC, HB⟩ := hrel
    by_cases hlt : kk < a.length
    · have hltz : (kk : Int) < (a.length : Int) := by omega
      have h0z : (0 : Int) ≤ (kk : Int) := by omega
      have hia : kk < a.length := hlt
      have hib : kk < b.length := by omega
      have ew : IntKind.i64.wrap ((kk : Int) + 1) = ((kk + 1 : Nat) : Int) := IntWalk.i64_in _ (by omega)
      have hE := HE.out
      rw [List.drop_eq_getElem_cons hia, List.drop_eq_getElem_cons hib, lessAcc] at hE
      have HE2 := Aside0.mk hE
      clear hE HE
      obtain ⟨ada, ca_, Ax, cx, exa, xa0, xa1, xa2, xva⟩ := HA.out.at kk hia
      cases exa
      obtain ⟨adb, cb_, Ay, cy, exb, xb0, xb1, xb2, xvb⟩ := HC.out.at kk hib
      cases exb
      have hgs := Aside0.mk (blk_lt HBK.out)
      have hrs := Aside0.mk (blk_lt HR.out)
      have hws := Aside0.mk HB.out.size
      have Hxa := Aside0.mk (And.intro xa0 (And.intro xa1 (And.intro xa2 xva)))
      have Hxb := Aside0.mk (And.intro xb0 (And.intro xb1 (And.intro xb2 xvb)))
      clear xa0 xa1 xa2 xva xb0 xb1 xb2 xvb
      go_wp2
      have cm : ∀ (W : World) {p : Addr} {v : Value}, Below wr.drew.heap.size wr.drew W → wr.cell? p = some v → W.cell? p = some v := fun W p v hW hx => (hW.cell (World.block_lt_of_cell? _ _ hx)).trans hx
      have ca0 := fun (W : World) (hW : Below wr.drew.heap.size wr.drew W) => cm W hW Hxa.out.1
      have ca1 := fun (W : World) (hW : Below wr.drew.heap.size wr.drew W) => cm W hW Hxa.out.2.1
      have ca2 := fun (W : World) (hW : Below wr.drew.heap.size wr.drew W) => cm W hW Hxa.out.2.2.1
      have cb0 := fun (W : World) (hW : Below wr.drew.heap.size wr.drew W) => cm W hW Hxb.out.1
      have cb1 := fun (W : World) (hW : Below wr.drew.heap.size wr.drew W) => cm W hW Hxb.out.2.1
      have cb2 := fun (W : World) (hW : Below wr.drew.heap.size wr.drew W) => cm W hW Hxb.out.2.2.1
      have cg0 := fun (W : World) (hW : Below wr.drew.heap.size wr.drew W) => cm W hW ((blk_cell HBK.out 0).trans (show _ = some (.int .i64 e.f0) from rfl))
      have cg1 := fun (W : World) (hW : Below wr.drew.heap.size wr.drew W) => cm W hW ((blk_cell HBK.out 1).trans (show _ = some (.int .i64 e.f1) from rfl))
      have cg2 := fun (W : World) (hW : Below wr.drew.heap.size wr.drew W) => cm W hW ((blk_cell HBK.out 2).trans (show _ = some (.slice A e.f2.length c) from rfl))
      obtain ⟨ok2, hok2e⟩ : ∃ ok2 : Nat → Prop, ok2 = fun k => (ok k ∧ k ≠ gr) ∧ k ≠ g := ⟨_, rfl⟩
      have hno : ∀ k, ok k ∧ k < w.heap.size → ok2 k := fun k hk => by rw [hok2e]; exact ⟨⟨hk.1, Nat.ne_of_lt (Nat.lt_of_lt_of_le hk.2 HRl.out)⟩, Nat.ne_of_lt (Nat.lt_of_lt_of_le hk.2 HG.out)⟩
      have eva : EXv ok2 wr.drew _ _ := EXv.move (EXv.mono Hxa.out.2.2.2 hno) (below_drew (Below.refl _ _))
      have evb : EXv ok2 wr.drew _ _ := EXv.move (EXv.mono Hxb.out.2.2.2 hno) (below_drew (Below.refl _ _))
      have eve : EXv ok2 wr.drew _ _ := EXv.move (EXv.mono HL.out (fun k hk => by rw [hok2e]; exact hk)) (below_drew (Below.refl _ _))
      have hok2 : ∀ k, wr.drew.heap.size ≤ k → ok2 k := fun k hk => by rw [hok2e]; exact ⟨⟨hok k (Nat.le_trans hws.out hk), Nat.ne_of_gt (Nat.lt_of_lt_of_le hrs.out hk)⟩, Nat.ne_of_gt (Nat.lt_of_lt_of_le hgs.out hk)⟩
      refine any_region [some 13, some 14, some 15, some 16, some 17, some 18, some 19, some 20, some 21, some 22, some 23, some 24, some 25, some 26, some 27, some 28, some 29, some 30, some 31, some 32, some 33, some 34, some 35, some 36, some 37, some 38, some 39, some 40, some 41, none] 44 29 [VP.eq (.slice (some ada) a.length ca), VP.eq (.int .i64 (kk : Int)), VP.eq (.pointer (some (ada.add (kk * 3)))), VP.ex ok2 (a[kk]), VP.exs ok2 ([a[kk]]), VP.ex ok2 (⟨3, 0, [a[kk]]⟩), VP.eq (.slice (some adb) b.length cb), VP.eq (.int .i64 (kk : Int)), VP.eq (.pointer (some (adb.add (kk * 3)))), VP.ex ok2 (b[kk]), VP.exs ok2 ([⟨3, 0, [a[kk]]⟩, b[kk]]), VP.ex ok2 (⟨4, 0, [⟨3, 0, [a[kk]]⟩, b[kk]]⟩), VP.eq (.slice (some ada) a.length ca), VP.eq (.int .i64 (kk : Int)), VP.eq (.pointer (some (ada.add (kk * 3)))), VP.ex ok2 (a[kk]), VP.eq (.slice (some adb) b.length cb), VP.eq (.int .i64 (kk : Int)), VP.eq (.pointer (some (adb.add (kk * 3)))), VP.ex ok2 (b[kk]), VP.exs ok2 ([a[kk], b[kk]]), VP.ex ok2 (⟨6, 0, [a[kk], b[kk]]⟩), VP.exs ok2 ([⟨6, 0, [a[kk], b[kk]]⟩]), VP.ex ok2 (⟨3, 0, [⟨6, 0, [a[kk], b[kk]]⟩]⟩), VP.ex ok2 (e), VP.exs ok2 ([⟨3, 0, [⟨6, 0, [a[kk], b[kk]]⟩]⟩, e]), VP.ex ok2 (⟨4, 0, [⟨3, 0, [⟨6, 0, [a[kk], b[kk]]⟩]⟩, e]⟩), VP.exs ok2 ([⟨4, 0, [⟨3, 0, [a[kk]]⟩, b[kk]]⟩, ⟨4, 0, [⟨3, 0, [⟨6, 0, [a[kk], b[kk]]⟩]⟩, e]⟩]), VP.ex ok2 (⟨5, 0, [⟨4, 0, [⟨3, 0, [a[kk]]⟩, b[kk]]⟩, ⟨4, 0, [⟨3, 0, [⟨6, 0, [a[kk], b[kk]]⟩]⟩, e]⟩]⟩)] rfl less_tab rfl rfl (by kernel_rfl) rfl ⟨?_, ?_, ?_, ?_, ?_, ?_, ?_, ?_, ?_, ?_, ?_, ?_, ?_, ?_, ?_, ?_, ?_, ?_, ?_, ?_, ?_, ?_, ?_, ?_, ?_, ?_, ?_, ?_, ?_, trivial⟩ ?_
      · intro b W B hW hB hb hd K hK hK2; exact mv_step rfl rfl (hb 0 (by kernel_rfl)) (hK _ _ rfl (Below.refl _ _))
      · intro b W B hW hB hb hd K hK hK2; exact mv_step rfl rfl (hb 6 (by kernel_rfl)) (hK _ _ rfl (Below.refl _ _))
      · intro b W B hW hB hb hd K hK hK2; exact ix_step rfl rfl (hd 0 13 (by kernel_rfl) rfl) (hd 1 14 (by kernel_rfl) rfl) hia hma (hK _ _ rfl (Below.refl _ _))
      · intro b W B hW hB hb hd K hK hK2; exact ld_step rfl rfl (hd 2 15 (by kernel_rfl) rfl) (ca0 W hW) (ca1 W hW) (ca2 W hW) (hK _ _ (EXv.old eva hW hB) (Below.refl _ _))
      · intro b W B hW hB hb hd K hK hK2; exact bs1_step rfl rfl rfl (hd 3 16 (by kernel_rfl) rfl) (fresh_ hok2 hW hB _ (Nat.le_refl _)) (fun v W' hv hb => hK v W' hv hb)
      · intro b W B hW hB hb hd K hK hK2; exact ex_step rfl rfl rfl (hd 4 17 (by kernel_rfl) rfl) (fresh_ hok2 hW hB) (fun v W' hv hb => hK v W' hv hb)
      · intro b W B hW hB hb hd K hK hK2; exact mv_step rfl rfl (hb 1 (by kernel_rfl)) (hK _ _ rfl (Below.refl _ _))
      · intro b W B hW hB hb hd K hK hK2; exact mv_step rfl rfl (hb 6 (by kernel_rfl)) (hK _ _ rfl (Below.refl _ _))
      · intro b W B hW hB hb hd K hK hK2; exact ix_step rfl rfl (hd 6 19 (by kernel_rfl) rfl) (hd 7 20 (by kernel_rfl) rfl) hib hmb (hK _ _ rfl (Below.refl _ _))
      · intro b W B hW hB hb hd K hK hK2; exact ld_step rfl rfl (hd 8 21 (by kernel_rfl) rfl) (cb0 W hW) (cb1 W hW) (cb2 W hW) (hK _ _ (EXv.old evb hW hB) (Below.refl _ _))
      · intro b W B hW hB hb hd K hK hK2; exact bs2_step rfl rfl rfl (hd 5 18 (by kernel_rfl) rfl) (hd 9 22 (by kernel_rfl) rfl) (fresh_ hok2 hW hB _ (Nat.le_refl _)) (fun v W' hv hb => hK v W' hv hb)
      · intro b W B hW hB hb hd K hK hK2; exact ex_step rfl rfl rfl (hd 10 23 (by kernel_rfl) rfl) (fresh_ hok2 hW hB) (fun v W' hv hb => hK v W' hv hb)
      · intro b W B hW hB hb hd K hK hK2; exact mv_step rfl rfl (hb 0 (by kernel_rfl)) (hK _ _ rfl (Below.refl _ _))
      · intro b W B hW hB hb hd K hK hK2; exact mv_step rfl rfl (hb 6 (by kernel_rfl)) (hK _ _ rfl (Below.refl _ _))
      · intro b W B hW hB hb hd K hK hK2; exact ix_step rfl rfl (hd 12 25 (by kernel_rfl) rfl) (hd 13 26 (by kernel_rfl) rfl) hia hma (hK _ _ rfl (Below.refl _ _))
      · intro b W B hW hB hb hd K hK hK2; exact ld_step rfl rfl (hd 14 27 (by kernel_rfl) rfl) (ca0 W hW) (ca1 W hW) (ca2 W hW) (hK _ _ (EXv.old eva hW hB) (Below.refl _ _))
      · intro b W B hW hB hb hd K hK hK2; exact mv_step rfl rfl (hb 1 (by kernel_rfl)) (hK _ _ rfl (Below.refl _ _))
      · intro b W B hW hB hb hd K hK hK2; exact mv_step rfl rfl (hb 6 (by kernel_rfl)) (hK _ _ rfl (Below.refl _ _))
      · intro b W B hW hB hb hd K hK hK2; exact ix_step rfl rfl (hd 16 29 (by kernel_rfl) rfl) (hd 17 30 (by kernel_rfl) rfl) hib hmb (hK _ _ rfl (Below.refl _ _))
      · intro b W B hW hB hb hd K hK hK2; exact ld_step rfl rfl (hd 18 31 (by kernel_rfl) rfl) (cb0 W hW) (cb1 W hW) (cb2 W hW) (hK _ _ (EXv.old evb hW hB) (Below.refl _ _))
      · intro b W B hW hB hb hd K hK hK2; exact bs2_step rfl rfl rfl (hd 15 28 (by kernel_rfl) rfl) (hd 19 32 (by kernel_rfl) rfl) (fresh_ hok2 hW hB _ (Nat.le_refl _)) (fun v W' hv hb => hK v W' hv hb)
      · intro b W B hW hB hb hd K hK hK2; exact ex_step rfl rfl rfl (hd 20 33 (by kernel_rfl) rfl) (fresh_ hok2 hW hB) (fun v W' hv hb => hK v W' hv hb)
      · intro b W B hW hB hb hd K hK hK2; exact bs1_step rfl rfl rfl (hd 21 34 (by kernel_rfl) rfl) (fresh_ hok2 hW hB _ (Nat.le_refl _)) (fun v W' hv hb => hK v W' hv hb)
      · intro b W B hW hB hb hd K hK hK2; exact ex_step rfl rfl rfl (hd 22 35 (by kernel_rfl) rfl) (fresh_ hok2 hW hB) (fun v W' hv hb => hK v W' hv hb)
      · intro b W B hW hB hb hd K hK hK2; exact ld_step rfl rfl (hb 5 (by kernel_rfl)) (cg0 W hW) (cg1 W hW) (cg2 W hW) (hK _ _ (EXv.old eve hW hB) (Below.refl _ _))
      · intro b W B hW hB hb hd K hK hK2; exact bs2_step rfl rfl rfl (hd 23 36 (by kernel_rfl) rfl) (hd 24 37 (by kernel_rfl) rfl) (fresh_ hok2 hW hB _ (Nat.le_refl _)) (fun v W' hv hb => hK v W' hv hb)
      · intro b W B hW hB hb hd K hK hK2; exact ex_step rfl rfl rfl (hd 25 38 (by kernel_rfl) rfl) (fresh_ hok2 hW hB) (fun v W' hv hb => hK v W' hv hb)
      · intro b W B hW hB hb hd K hK hK2; exact bs2_step rfl rfl rfl (hd 11 24 (by kernel_rfl) rfl) (hd 26 39 (by kernel_rfl) rfl) (fresh_ hok2 hW hB _ (Nat.le_refl _)) (fun v W' hv hb => hK v W' hv hb)
      · intro b W B hW hB hb hd K hK hK2; exact ex_step rfl rfl rfl (hd 27 40 (by kernel_rfl) rfl) (fresh_ hok2 hW hB) (fun v W' hv hb => hK v W' hv hb)
      · intro vals F W B hF hW hBB hV K hK
        refine st_stepE (ok := fun k => ok2 k ∧ ¬ B k) (x := (⟨5, 0, [⟨4, 0, [⟨3, 0, [a[kk]]⟩, b[kk]]⟩, ⟨4, 0, [⟨3, 0, [⟨6, 0, [a[kk], b[kk]]⟩]⟩, e]⟩]⟩ : S27)) rfl rfl rfl (g := g) ((congrArg (fun q_ : Act => q_.eval (.tmp 5)) hF).trans (fillA_o (by kernel_rfl) rfl)) (EXv.eval ((congrArg (fun q_ : Act => q_.eval (.tmp 41)) hF).trans (fillA_i (n := 44) (by kernel_rfl) rfl (by kernel_rfl))) (hV 28 41 (of_decide_eq_true (by kernel_rfl)) rfl)) (blk_below (blk_drew HBK.out) hW) (fun W' A9 c9 hbk h9 hkp => hK _ _ ?_)
        have HL' := Aside0.mk (show EXv (fun k => (ok k ∧ k ≠ gr) ∧ k ≠ g) W' (.agg #[.int .i64 ((⟨5, 0, [⟨4, 0, [⟨3, 0, [a[kk]]⟩, b[kk]]⟩, ⟨4, 0, [⟨3, 0, [⟨6, 0, [a[kk], b[kk]]⟩]⟩, e]⟩]⟩ : S27)).f0, .int .i64 ((⟨5, 0, [⟨4, 0, [⟨3, 0, [a[kk]]⟩, b[kk]]⟩, ⟨4, 0, [⟨3, 0, [⟨6, 0, [a[kk], b[kk]]⟩]⟩, e]⟩]⟩ : S27)).f1, .slice A9 ((⟨5, 0, [⟨4, 0, [⟨3, 0, [a[kk]]⟩, b[kk]]⟩, ⟨4, 0, [⟨3, 0, [⟨6, 0, [a[kk], b[kk]]⟩]⟩, e]⟩]⟩ : S27)).f2.length c9]) (⟨5, 0, [⟨4, 0, [⟨3, 0, [a[kk]]⟩, b[kk]]⟩, ⟨4, 0, [⟨3, 0, [⟨6, 0, [a[kk], b[kk]]⟩]⟩, e]⟩]⟩ : S27) from EXv.kept (EXv.mono h9 (fun k hk => by rw [hok2e] at hk; exact hk.1)) hkp.kept (fun k hk hs => hk.2 hs))
        have HK' := Aside0.mk hbk
        have HR' := Aside0.mk (blk_kept (blk_below (blk_drew HR.out) hW) hkp.kept (fun h => HRG.out h))
        have hbW := (below_drew1 HB.out).trans (hW.mono HB.out.size)
        have HB' := Aside0.mk (hkp.below _ hbW HG.out)
        have hnw : ∀ k, ok k ∧ k < w.heap.size → ¬ (k = g) := fun k hk h => Nat.lt_irrefl _ (Nat.lt_of_lt_of_le hk.2 (by rw [h]; exact HG.out))
        have HA' := Aside0.mk (EXs.kept (EXs.move (EXs.move HA.out (below_drew (Below.refl _ _))) hW) hkp.kept hnw)
        have HC' := Aside0.mk (EXs.kept (EXs.move (EXs.move HC.out (below_drew (Below.refl _ _))) hW) hkp.kept hnw)
        clear HA HC HB HR HBK HL hbW hnw hkp hbk h9 hV hBB hW hok2 hno hok2e eva evb eve cm ca0 ca1 ca2 cb0 cb1 cb2 cg0 cg1 cg2 Hxa Hxb hK
        rw [hF]
        clear hF
        simp only [List.take, fillA, Act.put, List.setIfInBounds_toArray, List.set_cons_zero, List.set_cons_succ]
        go_wp2
        go_roundg (gk - 1)
        case measure => omega
        case rel => exact ⟨kk + 1, (⟨5, 0, [⟨4, 0, [⟨3, 0, [a[kk]]⟩, b[kk]]⟩, ⟨4, 0, [⟨3, 0, [⟨6, 0, [a[kk], b[kk]]⟩]⟩, e]⟩]⟩ : S27), A9, c9, rfl, by omega, by omega, HE2, HK', HR', HL', HA', HC', HB'⟩
    · have hE := HE.out
      obtain rfl : kk = a.length := by omega
      rw [List.drop_length, lessAcc] at hE
      subst hE
      have hc0 := (blk_cell HBK.out 0).trans (show _ = some (.int .i64 (lessE a b).f0) from rfl)
      have hc1 := (blk_cell HBK.out 1).trans (show _ = some (.int .i64 (lessE a b).f1) from rfl)
      have hc2 := (blk_cell HBK.out 2).trans (show _ = some (.slice A (lessE a b).f2.length c) from rfl)
      have hr0 := (blk_cell HR.out 0).trans (show _ = some (.int .i64 0) from rfl)
      have hr1 := (blk_cell HR.out 1).trans (show _ = some (.int .i64 0) from rfl)
      have hr2 := (blk_cell HR.out 2).trans (show _ = some (.slice none 0 0) from rfl)
      have hfr0 := blk_frozen HR.out 0
      have hfr1 := blk_frozen HR.out 1
      have hfr2 := blk_frozen HR.out 2
      have hne := HRG.out
      have hne2 := Ne.symm HRG.out
      go_wp2
      have hput := box_put3 (a := .int .i64 (lessE a b).f0) (b := .int .i64 (lessE a b).f1) (v := .slice A (lessE a b).f2.length c) HR.out
      refine bodyPost_ret (results_cell_row rfl _ _ gr 27 #[.int .i64 (lessE a b).f0, .int .i64 (lessE a b).f1, .slice A (lessE a b).f2.length c] (0, 0) _ rfl hput.1 Try.underlying27 rfl (by kernel_rfl)) rfl ?_
      exact ⟨_, rfl, EXv.mono (EXv.kept HL.out hput.2.kept (fun k hk hs => hk.1.2 hs)) (fun k hk => hk.1.1), hput.2.below _ HB.out HRl.out⟩

/-! ### impl_LessEx: function 6 -/
def impl_LessEx.f (k : Nat) (l0 l1 : List S27) : Option (Int × Int × List S27 × Int) :=
  (impl_rowsCode.f k l0 l1).bind fun c => if c = 0 then (if l0.length ≤ l1.length then impl_checkedEx.f k (lessE l0 l1).f0 (lessE l0 l1).f1 (lessE l0 l1).f2 else none) else some (0, 0, [], c)
set_option maxHeartbeats 1600000 in
set_option maxRecDepth 100000 in
theorem lessS.calls (k : Nat) (P0_ : Nat → Prop) (A0 : Option Addr) (c0 : Nat) (l0 : List S27) (P1_ : Nat → Prop) (A1 : Option Addr) (c1 : Nat) (l1 : List S27) (r1 r2 : Int) (r3 : List S27) (r4 : Int) (w : World) (hs0 : Kd.V k27 27 w w.heap.size (fun k_ => P0_ k_) (.slice A0 l0.length c0) l0) (hs1 : Kd.V k27 27 w w.heap.size (fun k_ => P1_ k_) (.slice A1 l1.length c1) l1) (h : impl_LessEx.f k l0 l1 = some (r1, r2, r3, r4)) :
    Calls Try.prog 6 #[.slice A0 l0.length c0, .slice A1 l1.length c1] w fun e w' => ∃ v2_ : Value, e = .returned (.tuple #[.agg #[.int .i64 r1, .int .i64 r2, v2_], .int .i64 r4]) ∧ Kd.S kS27 27 w' w.heap.size (fun _ => True) v2_ r3 ∧ Below w.heap.size w w' := by
  have hu27 := Try.underlying27
  have H0 := Aside0.mk (And.intro (Kd.V_reads' hs0).2.2 (Kd.V_reads' hs0).2.1)
  have H1 := Aside0.mk (And.intro (Kd.V_reads' hs1).2.2 (Kd.V_reads' hs1).2.1)
  have HB := Aside0.mk (Below.refl w.heap.size w)
  clear hs0 hs1
  unfold impl_LessEx.f at h
  obtain ⟨c, hpair, h⟩ := Option.bind_eq_some_iff.1 h
  by_cases hc : c = 0
  · subst hc
    rw [if_pos rfl] at h
    by_cases hq : l0.length ≤ l1.length
    · rw [if_pos hq] at h
      have HQ := Aside0.mk hq
      clear hq
      go_enter Try.func6, Try.ntmps6
      go_wp2_with (first
        | ((with_reducible refine gate_dst (N := 4) rfl ?_); refine box_event ?hg (N := 4) ?hd (cs := #[.int .i64 0, .int .i64 0, .slice none 0 0]) (t := 27) ?hr ?_; (case hd => rfl); (case hg => rfl); (case hr => first | (go_simp; done) | (go_simp; rfl)); intro gr hgw wb_gr hbox hbb; have HR := Aside0.mk (And.intro hbox (show w.heap.size ≤ gr by rw [hgw]; exact HB.out.size)); clear hgw hbox; have m0_ := Aside0.mk (HB.out.trans (hbb.mono HB.out.size)); clear HB; have HB := m0_; clear m0_; clear hbb)
        | (go_at_call 10; (with_reducible refine (impl_rowsCode.calls k A0 c0 l0 A1 c1 l1 _ _ (Kd.C_below H0.out.1 HB.out) H0.out.2 (Kd.C_below H1.out.1 HB.out) H1.out.2 hpair).mono ?_); rintro e w2 ⟨rfl, hb⟩; have m0_ := Aside0.mk (HB.out.trans (hb.mono HB.out.size)); have m1_ := Aside0.mk (And.intro (blk_below HR.out.1 hb) HR.out.2); clear HB HR; have HB := m0_; have HR := m1_; clear m0_ m1_; clear hb; have hz0 := (blk_cell HR.out.1 0).trans (show _ = some (.int .i64 0) from rfl); have hz1 := (blk_cell HR.out.1 1).trans (show _ = some (.int .i64 0) from rfl); have hz2 := (blk_cell HR.out.1 2).trans (show _ = some (.slice none 0 0) from rfl); have hzf0 := blk_frozen HR.out.1 0; have hzf1 := blk_frozen HR.out.1 1; have hzf2 := blk_frozen HR.out.1 2)
        | (go_at_call 14; (with_reducible refine (less_any (fun _ => True) _ _ l0 l1 HQ.out _ (EXs.move (EXs.came H0.out.1 H0.out.2 (fun _ _ => trivial)) HB.out) (EXs.move (EXs.came H1.out.1 H1.out.2 (fun _ _ => trivial)) HB.out) (fun _ _ => trivial)).mono ?_); rintro e w3 ⟨u, rfl, hu, hb⟩; obtain ⟨Az, cz, rfl, lz, Fz⟩ := hu; have HZ := Aside0.mk (And.intro lz (Kd.F_now Fz)); clear lz Fz; clear hz0 hz1 hz2 hzf0 hzf1 hzf2; have m0_ := Aside0.mk (HB.out.trans (hb.mono HB.out.size)); have m1_ := Aside0.mk (And.intro (blk_below HR.out.1 hb) HR.out.2); clear HB HR; have HB := m0_; have HR := m1_; clear m0_ m1_; clear hb)
        | (go_at_call 13; (with_reducible refine (checkedS.calls k (lessE l0 l1).f0 (lessE l0 l1).f1 Az cz (lessE l0 l1).f2 _ _ _ _ _ HZ.out.2 HZ.out.1 h).mono ?_); rintro e w4 ⟨v4, rfl, hS, hb⟩; have HS := Aside0.mk (show Kd.S kS27 27 w4 w.heap.size (fun k_ => k_ ≠ gr) v4 r3 from Kd.S_lower (Kd.S_mono (Kd.S_bound hS) (fun k_ hk_ => Nat.ne_of_gt (Nat.lt_of_lt_of_le (blk_lt HR.out.1) hk_.2.1))) HB.out.size); obtain ⟨A4, c4, e4⟩ := Kd.S_slice hS; subst e4; clear hS; have m0_ := Aside0.mk (HB.out.trans (hb.mono HB.out.size)); have m1_ := Aside0.mk (And.intro (blk_below HR.out.1 hb) HR.out.2); clear HB HR; have HB := m0_; have HR := m1_; clear m0_ m1_; clear hb; have hz0 := (blk_cell HR.out.1 0).trans (show _ = some (.int .i64 0) from rfl); have hz1 := (blk_cell HR.out.1 1).trans (show _ = some (.int .i64 0) from rfl); have hz2 := (blk_cell HR.out.1 2).trans (show _ = some (.slice none 0 0) from rfl); have hzf0 := blk_frozen HR.out.1 0; have hzf1 := blk_frozen HR.out.1 1; have hzf2 := blk_frozen HR.out.1 2))
      have hput := box_put3 (a := .int .i64 r1) (b := .int .i64 r2) (v := .slice A4 r3.length c4) HR.out.1
      refine bodyPost_ret (results_ct rfl _ _ gr 27 #[.int .i64 r1, .int .i64 r2, .slice A4 r3.length c4] (0, 0) _ rfl hput.1 Try.underlying27 rfl (by kernel_rfl)) rfl ?_
      exact ⟨_, rfl, Kd.S_mono (Kd.S_kept HS.out hput.2.kept (fun k_ hk_ hs_ => hk_ hs_)) (fun _ _ => trivial), hput.2.below _ HB.out HR.out.2⟩
    · rw [if_neg hq] at h
      cases h
  · rw [if_neg hc] at h
    have hc1 : (c != 0) = true := bne_iff_ne.mpr hc
    simp only [Option.some.injEq, Prod.mk.injEq] at h
    obtain ⟨rfl, rfl, rfl, rfl⟩ := h
    go_enter Try.func6, Try.ntmps6
    go_wp2_with (first | ((with_reducible refine gate_dst (N := 4) rfl ?_); refine box_event ?hg (N := 4) ?hd (cs := #[.int .i64 0, .int .i64 0, .slice none 0 0]) (t := 27) ?hr ?_; (case hd => rfl); (case hg => rfl); (case hr => first | (go_simp; done) | (go_simp; rfl)); intro gr hgw wb_gr hbox hbb; have HR := Aside0.mk (And.intro hbox (show w.heap.size ≤ gr by rw [hgw]; exact HB.out.size)); clear hgw hbox; have m0_ := Aside0.mk (HB.out.trans (hbb.mono HB.out.size)); clear HB; have HB := m0_; clear m0_; clear hbb) | (go_at_call 10; (with_reducible refine (impl_rowsCode.calls k A0 c0 l0 A1 c1 l1 _ _ (Kd.C_below H0.out.1 HB.out) H0.out.2 (Kd.C_below H1.out.1 HB.out) H1.out.2 hpair).mono ?_); rintro e w2 ⟨rfl, hb⟩; have m0_ := Aside0.mk (HB.out.trans (hb.mono HB.out.size)); have m1_ := Aside0.mk (And.intro (blk_below HR.out.1 hb) HR.out.2); clear HB HR; have HB := m0_; have HR := m1_; clear m0_ m1_; clear hb; have hz0 := (blk_cell HR.out.1 0).trans (show _ = some (.int .i64 0) from rfl); have hz1 := (blk_cell HR.out.1 1).trans (show _ = some (.int .i64 0) from rfl); have hz2 := (blk_cell HR.out.1 2).trans (show _ = some (.slice none 0 0) from rfl); have hzf0 := blk_frozen HR.out.1 0; have hzf1 := blk_frozen HR.out.1 1; have hzf2 := blk_frozen HR.out.1 2))
    have hput := box_put3 (a := .int .i64 0) (b := .int .i64 0) (v := .slice none 0 0) HR.out.1
    refine bodyPost_ret (results_ct rfl _ _ gr 27 #[.int .i64 0, .int .i64 0, .slice none 0 0] (0, 0) _ rfl hput.1 Try.underlying27 rfl (by kernel_rfl)) rfl ?_
    exact ⟨_, rfl, Kd.S_nil _ _ _ _ _, hput.2.below _ HB.out HR.out.2⟩

end Go.Proofs.Ytpcgepealdpinaa.PFnCompares
