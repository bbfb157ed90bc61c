/- FnExactNetText: impl.netText: the text of a network. Conditions: the form's own reach alone. -/
import Derived.Test.YtgibacfgjmdjdaaDoorNW
import Derived.Test.YtgibacfgjmdjdaaDoorDB3
namespace Go.Proofs.YtgibacfgjmdjdaaDoor.PFnExactIsStable
open Go.RowKit Go.Proofs.YtgibacfgjmdjdaaDoorW.PrintWords Go.Proofs.YtgibacfgjmdjdaaDoorW.PrintLast Go.Proofs.YtgibacfgjmdjdaaDoorW.PrintMore
attribute [local go_sem] max2_int min2_int max_two min_two max_three min_three max_four min_four   -- for this text's walks alone
set_option linter.unusedVariables false
set_option linter.unusedSimpArgs false
set_option maxHeartbeats 80000000
set_option maxRecDepth 100000
def nt_r11_T : Bool × List (List Nat × List Nat) := (true, [([], []), ([], []), ([1], [1]), ([], []), ([3], [3]), ([2, 4], [2, 4]), ([5], [5]), ([], []), ([7], [7]), ([], []), ([9], [9]), ([8, 10], [8, 10]), ([11], [11]), ([], []), ([13], [13]), ([14], [14]), ([6, 12, 15], [6, 12, 15]), ([0, 16, 15], [0, 16])])
theorem nt_r11_tab : rtab .any (opsOf Tryd.f22 11) = nt_r11_T := by kernel_rfl

def nt_r26_T : Bool × List (List Nat × List Nat) := (true, [([], []), ([], []), ([1], [1]), ([], []), ([3], [3]), ([2, 4], [2, 4]), ([5], [5]), ([], []), ([7], [7]), ([], []), ([9], [9]), ([8, 10], [8, 10]), ([11], [11]), ([], []), ([13], [13]), ([14], [14]), ([15], [15]), ([12, 16], [12, 16]), ([], []), ([18], [18]), ([17, 19], [17, 19]), ([6, 20], [6, 20]), ([0, 21, 19], [0, 21])])
theorem nt_r26_tab : rtab .any (opsOf Tryd.f22 26) = nt_r26_T := by kernel_rfl

def nt_r31_T : Bool × List (List Nat × List Nat) := (true, [([], []), ([], []), ([1], [1]), ([], []), ([3], [3]), ([2, 4], [2, 4]), ([5], [5]), ([], []), ([7], [7]), ([], []), ([9], [9]), ([8, 10], [8, 10]), ([11], [11]), ([], []), ([13], [13]), ([14], [14]), ([], []), ([16], [16]), ([17, 15], [17]), ([6, 12, 15, 18], [6, 12, 15, 18]), ([0, 19, 18], [0, 19])])
theorem nt_r31_tab : rtab .any (opsOf Tryd.f22 31) = nt_r31_T := by kernel_rfl
theorem impl_netText.calls (A0_0 : Option Addr) (c0_0 : Nat) (l0_0 : List ByteArray) (A0_1 : Option Addr) (c0_1 : Nat) (l0_1 : List S92) (A0_2 : Option Addr) (c0_2 : Nat) (l0_2 : List Int) (A0_3 : Option Addr) (c0_3 : Nat) (l0_3 : List Int) (A0_4 : Option Addr) (c0_4 : Nat) (l0_4 : List S95) (A0_5 : Option Addr) (c0_5 : Nat) (l0_5 : List S97) (w : World) (hT : Tab w) (hWT : WT w) (hN : NetFit l0_0 l0_1 l0_2 l0_3 l0_4 l0_5) (hr0_0 : Kd.C Kd.string w A0_0 l0_0.length l0_0) (hc0_0 : l0_0.length ≤ c0_0) (hr0_1 : Kd.C k92 w A0_1 l0_1.length l0_1) (hc0_1 : l0_1.length ≤ c0_1) (hr0_2 : Kd.C (Kd.int .i64) w A0_2 l0_2.length l0_2) (hc0_2 : l0_2.length ≤ c0_2) (hr0_3 : Kd.C (Kd.int .i64) w A0_3 l0_3.length l0_3) (hc0_3 : l0_3.length ≤ c0_3) (hr0_4 : Kd.C k95 w A0_4 l0_4.length l0_4) (hc0_4 : l0_4.length ≤ c0_4) (hr0_5 : Kd.C k97 w A0_5 l0_5.length l0_5) (hc0_5 : l0_5.length ≤ c0_5) :
  Calls Tryd.prog 22 #[.agg #[.slice A0_0 l0_0.length c0_0, .slice A0_1 l0_1.length c0_1, .slice A0_2 l0_2.length c0_2, .slice A0_3 l0_3.length c0_3, .slice A0_4 l0_4.length c0_4, .slice A0_5 l0_5.length c0_5]] w fun e w' => e = .returned (.string (sB (netT l0_0 l0_1 l0_2 l0_3 l0_4 l0_5))) ∧ Below w.heap.size w w' := by
 have hu38 := Tryd.underlying36
 have hu92 := Tryd.underlying62
 have hu95 := Tryd.underlying65
 have hu97 := Tryd.underlying67
 obtain ⟨HR0_0, HC0_0, HR0_1, HC0_1, HR0_2, HC0_2, HR0_3, HC0_3, HR0_4, HC0_4, HR0_5, HC0_5⟩ := as12 hr0_0 hc0_0 hr0_1 hc0_1 hr0_2 hc0_2 hr0_3 hc0_3 hr0_4 hc0_4 hr0_5 hc0_5
 clear hr0_0 hc0_0 hr0_1 hc0_1 hr0_2 hc0_2 hr0_3 hc0_3 hr0_4 hc0_4 hr0_5 hc0_5
 have HT := aM hT
 have HW := aM hWT
 have HN := aM hN
 have HB := aM (Below.refl w.heap.size w)
 clear hT hWT hN
 go_enter Tryd.func22, Tryd.ntmps22
 go_wp2_with (first | ((with_reducible refine gate_dst (N := 1) rfl ?_); refine box_event rfl (N := 1) rfl (cs := #[.slice A0_0 l0_0.length c0_0, .slice A0_1 l0_1.length c0_1, .slice A0_2 l0_2.length c0_2, .slice A0_3 l0_3.length c0_3, .slice A0_4 l0_4.length c0_4, .slice A0_5 l0_5.length c0_5]) (t := 36) (by go_simp; done) ?_; intro gn hgn w1 hbox hb; have BN := aM hbox; have GN := bGE HB.out hgn; replace HB := aB HB hb; clear hb hbox hgn) | ((with_reducible refine gate_dst (N := 3) rfl ?_); refine box_event rfl (N := 3) rfl (cs := #[.pointer none, .slice none 0 0]) (t := 86) (by go_simp; done) ?_; intro gb hgb w2 hbox hb; have hk0 := (others_below (e := 5) (b := some gb) hb); have NN := bLT BN.out hgb; have HBU := aM (Or.inl ⟨(by rw [hgb]; exact HB.out.size), .slice none 0 0, hbox, own_nil _ _ _ _, by simp [Value.ownBlock]⟩ : Lib.IsBuilder 86 5 w.heap.size gb (Lib.byteCells []) w2); replace BN := aK BN hb; replace HB := aB HB hb; clear hb hbox hgb hk0; obtain ⟨hn0, hn1, hn2, hn3, hn4, hn5⟩ := swc6 BN.out))
 go_loopg [21] l0_0.length (fun gg s21 wr => ∃ kk : Nat, kk ≤ l0_0.length ∧ l0_0.length - kk ≤ gg ∧ s21 = .int .i64 kk ∧ Aside0 (Lib.IsBuilder 86 5 w.heap.size gb (Lib.byteCells ((l0_0.take kk).flatMap rL)) wr) ∧ Aside0 (wr.heap[gn]? = some (.cells #[.slice A0_0 l0_0.length c0_0, .slice A0_1 l0_1.length c0_1, .slice A0_2 l0_2.length c0_2, .slice A0_3 l0_3.length c0_3, .slice A0_4 l0_4.length c0_4, .slice A0_5 l0_5.length c0_5] 36 (0, 0))) ∧ Aside0 (Below w.heap.size w wr))
 case atStart => exact ⟨0, Nat.zero_le _, by omega, rfl, HBU, BN, HB⟩
 clear HBU BN HB hn0 hn1 hn2 hn3 hn4 hn5
 obtain ⟨kk, hkk, hg, rfl, HBU, BN, HB⟩ := hrel
 by_cases hlt : kk < l0_0.length
 · have hltz : (kk : Int) < (l0_0.length : Int) := by omega
   obtain ⟨ad, ea, hx⟩ := Kd.at_string HR0_0.out (kk : Int) (by omega) hltz
   cases ea
   rw [Int.toNat_natCast] at hx
   replace hx := swB HB.out hx
   have hy : l0_0[kk]? = some l0_0[kk] := List.getElem?_eq_getElem hlt
   rw [rdOf_at hy (kk : Int) (Int.toNat_natCast kk)] at hx
   have hz := HN.out.name _ (List.getElem_mem hlt)
   have ew : wrap64 ((kk : Int) + 1) = ((kk + 1 : Nat) : Int) := by rw [wr64 (by omega) (by have := HN.out.n0; omega)]; omega
   go_wp2_with fail
   refine (put2 w.heap.size gb 2 _ [[114, 111, 117, 116, 101, 114],  l0_0[kk].data.toList] _ _ (by simp only [List.map_cons, List.map_nil, sB_data]; rfl) rfl HBU.out HB.out.size (by have q0 := sflat_le rL l0_0 kk HN.out.n0 (fun x hx => line_le (rL_le (HN.out.name x hx)) (by simp) (by decide)); omega) (by decide) (by decide) (rL_le hz)).mono ?_
   rintro e wp ⟨rfl, hbu, hbp, hko⟩
   replace HBU := aM hbu
   replace BN := aM (hko gn _ BN.out (fun e => NN.out (Option.some.inj e)) (fun c fz => by intro e; cases e))
   replace HB := aM (HB.out.trans hbp)
   clear hbu hbp hko
   go_wp2
   go_roundg (l0_0.length - (kk + 1))
   case measure => exact sub_less hlt hg
   case rel => exact ⟨kk + 1, hlt, Nat.le_refl _, by rw [ew], ⟨by rw [flat_snoc rL l0_0 kk _ hy]; exact HBU.out⟩, BN, HB⟩
 · have hke : kk = l0_0.length := by omega
   subst hke
   replace HBU := aM (show Lib.IsBuilder 86 5 w.heap.size gb (Lib.byteCells (l0_0.flatMap rL)) wr by have h := HBU.out; rwa [List.take_of_length_le (Nat.le_refl _)] at h)
   obtain ⟨wl0, hwl⟩ : ∃ x, x = wr := ⟨_, rfl⟩
   subst hwl
   obtain ⟨hn0, hn1, hn2, hn3, hn4, hn5⟩ := swc6 BN.out
   go_wp2
   go_loopg [33] l0_1.length (fun gg s33 wr => ∃ kk : Nat, kk ≤ l0_1.length ∧ l0_1.length - kk ≤ gg ∧ s33 = .int .i64 kk ∧ Aside0 (Lib.IsBuilder 86 5 w.heap.size gb (Lib.byteCells (l0_0.flatMap rL ++ (l0_1.take kk).flatMap (lL l0_0))) wr) ∧ Aside0 (wr.heap[gn]? = some (.cells #[.slice A0_0 l0_0.length c0_0, .slice A0_1 l0_1.length c0_1, .slice A0_2 l0_2.length c0_2, .slice A0_3 l0_3.length c0_3, .slice A0_4 l0_4.length c0_4, .slice A0_5 l0_5.length c0_5] 36 (0, 0))) ∧ Aside0 (Below w.heap.size w wr))
   case atStart => exact ⟨0, Nat.zero_le _, by omega, rfl, ⟨by rw [List.take_zero, List.flatMap_nil, List.append_nil]; exact HBU.out⟩, BN, HB⟩
   clear HBU BN HB hn0 hn1 hn2 hn3 hn4 hn5
   obtain ⟨kk, hkk, hg, rfl, HBU, BN, HB⟩ := hrel
   by_cases hlt : kk < l0_1.length
   · have hltz : (kk : Int) < (l0_1.length : Int) := by omega
     obtain ⟨ad1, ea1, e0, e1, e2⟩ := at_T92 HR0_1.out (kk : Int) (by omega) hltz
     cases ea1
     rw [Int.toNat_natCast] at e0 e1 e2
     have hy : l0_1[kk]? = some l0_1[kk] := List.getElem?_eq_getElem hlt
     have hrd : rd_T92 l0_1 (kk : Int) = l0_1[kk] := by unfold rd_T92; simp [List.getD, hlt]
     rw [hrd] at e0 e1 e2
     have hmem := List.getElem_mem hlt
     obtain ⟨y, hyy⟩ : ∃ y, y = l0_1[kk] := ⟨_, rfl⟩
     rw [← hyy] at hy e0 e1 e2 hmem
     clear hrd hyy
     replace e0 := swB HB.out e0
     replace e1 := swB HB.out e1
     replace e2 := swB HB.out e2
     have hl := HN.out.link _ hmem
     obtain ⟨ad, ea, CS0⟩ := Kd.at_string HR0_0.out y.f0 hl.1.1 hl.1.2
     cases ea
     obtain ⟨ad', ea', CS1⟩ := Kd.at_string HR0_0.out y.f1 hl.2.1.1 hl.2.1.2
     obtain rfl := Option.some.inj ea'
     rw [← sB_nm] at CS0 CS1
     have HM : Aside0 (l0_0.length ≤ 9223372036854775807) := ⟨by have := HN.out.n0; omega⟩
     have IX0 := aM hl.1
     have IX1 := aM hl.2.1
     have SM2 := aM hl.2.2
     have ew : wrap64 ((kk : Int) + 1) = ((kk + 1 : Nat) : Int) := by rw [wr64 (by omega) (by have := HN.out.n1; omega)]; omega
     go_upto_region 11 with (first | ((with_reducible refine gate_dst (N := 8) rfl ?_); refine box_event rfl (N := 8) rfl (cs := #[.int .i64 0, .int .i64 0, .int .i64 0]) (t := 62) (by go_simp; done) ?_; intro g8 hg8 w8 hbox hbb; have HX := aM hbox; have HG8 := aM (Nat.le_of_eq hg8.symm : wr.heap.size ≤ g8); have HB8 := aM hbb; clear hbox hbb hg8) | ((with_reducible refine gate_store (t := 62) (p := 8) rfl ?_); obtain ⟨hc0, hc1, hc2⟩ := swc3 HX.out; have hf0 := blk_frozen HX.out 0; have hf1 := blk_frozen HX.out 1; have hf2 := blk_frozen HX.out 2; refine store_event (t := 62) (p := 8) (v := ?vo11) (w1 := (((w8.setCell ⟨g8, 0, none⟩ (.int .i64 y.f0)).setCell ⟨g8, 1, none⟩ (.int .i64 y.f1)).setCell ⟨g8, 2, none⟩ (.int .i64 y.f2))) ?hg11 ?ho11 ?hn11 ?hr11 ?_; (case ho11 => rfl); (case hg11 => rfl); (case hn11 => rfl); (case hr11 => (go_simp; done)); clear hc0 hf0 hc1 hf1 hc2 hf2; intro w9 hw_; obtain ⟨hbk, hkb, hkw⟩ := boxi3 (a0 := y.f0) (a1 := y.f1) (a2 := y.f2) HX.out; rw [← hw_] at hbk hkb hkw; clear hw_ hkb; have HB9 := aM (hkw wr HB8.out HG8.out); replace HX := aM hbk; replace HBU := aM (build_below HBU.out HB9.out); replace BN := aK BN HB9.out; replace HB := aB HB HB9.out; clear hbk hkw))
     obtain ⟨cn0, cn1, cn2, cn3, cn4, cn5⟩ := swc6 BN.out
     have CN := aM cn0
     obtain ⟨cx0, cx1, cx2⟩ := swc3 HX.out
     have CX0 := aM cx0
     have CX1 := aM cx1
     have CX2 := aM cx2
     replace CS0 := aM (swB HB.out CS0)
     replace CS1 := aM (swB HB.out CS1)
     clear cn0 cn1 cn2 cn3 cn4 cn5 cx0 cx1 cx2
     have HBd : Aside0 (Below w.heap.size w w9.drew) := ⟨below_drew HB.out⟩
     have itC : ∀ W, Below w9.drew.heap.size w9.drew W → ∀ n, smallI n → Calls Tryd.prog 51 #[.int .i64 n] W fun e W' => e = .returned (.string (sB (Lib.itoa n))) ∧ Below W.heap.size W W' := fun W hW n hn => itoa_sB n W (tab_below (tab_below HT.out HBd.out) hW) (by have := hn.1; omega) (by have := hn.2; omega)
     refine any_tail [some 37, some 38, some 39, some 40, some 41, some 42, some 43, some 44, some 45, some 46, some 47, some 48, some 49, some 50, some 51, some 52, some 53, some 54] 149 17 [0, 0, 2, 0, 8, 30, 62, 0, 128, 0, 512, 1920, 3968, 0, 8192, 24576, 65534, 131071] [VP.eq (.func (.func 48) #[] #[.pointer (some ⟨gb, 0, none⟩)]), VP.eq (.pointer (some ⟨gn, 0, none⟩)), VP.eq (.slice (some ad) l0_0.length c0_0), VP.eq (.pointer (some ⟨g8, 0, none⟩)), VP.eq (.int .i64 (y.f0)), VP.eq (.pointer (some (ad.add (y.f0).toNat))), VP.eq (.string (sB (nm l0_0 y.f0))), VP.eq (.pointer (some ⟨gn, 0, none⟩)), VP.eq (.slice (some ad) l0_0.length c0_0), VP.eq (.pointer (some ⟨g8, 1, none⟩)), VP.eq (.int .i64 (y.f1)), VP.eq (.pointer (some (ad.add (y.f1).toNat))), VP.eq (.string (sB (nm l0_0 y.f1))), VP.eq (.pointer (some ⟨g8, 2, none⟩)), VP.eq (.int .i64 (y.f2)), VP.eq (.string (sB (Lib.itoa y.f2))), VP.lit w9.drew.heap.size 5 #[.string ⟨#[108, 105, 110, 107]⟩, .string (sB (nm l0_0 y.f0)), .string (sB (nm l0_0 y.f1)), .string ⟨#[99, 111, 115, 116]⟩, .string (sB (Lib.itoa y.f2))]] rfl nt_r11_tab rfl rfl (by kernel_rfl) rfl ⟨?_, ?_, ?_, ?_, ?_, ?_, ?_, ?_, ?_, ?_, ?_, ?_, ?_, ?_, ?_, ?_, ?_, trivial⟩ ?_
     · exact fun _ W _ hW _ hb hd _ hK _ => gn_ hK (x_move rfl (hb 4))
     · exact fun _ W _ hW _ hb hd _ hK _ => gn_ hK (x_fa38 rfl (of_decide_eq_true (by kernel_rfl)) (hb 1))
     · exact fun _ W _ hW _ hb hd _ hK _ => gn_ hK (x_ld22 rfl (hd 1 38) ((hW.cell (World.block_lt_of_cell? _ _ CN.out)).trans CN.out))
     · exact fun _ W _ hW _ hb hd _ hK _ => gn_ hK (x_fa92 rfl (of_decide_eq_true (by kernel_rfl)) (hb 8))
     · exact fun _ W _ hW _ hb hd _ hK _ => gn_ hK (x_ld3 rfl (hd 3 40) ((hW.cell (World.block_lt_of_cell? _ _ CX0.out)).trans CX0.out))
     · exact fun _ W _ hW _ hb hd _ hK _ => gn_ hK (x_ixs rfl (hd 2 39) (hd 4 41) IX0.out.1 IX0.out.2 HM.out)
     · exact fun _ W _ hW _ hb hd _ hK _ => gn_ hK (x_ld9 rfl (hd 5 42) ((hW.cell (World.block_lt_of_cell? _ _ CS0.out)).trans CS0.out))
     · exact fun _ W _ hW _ hb hd _ hK _ => gn_ hK (x_fa38 rfl (of_decide_eq_true (by kernel_rfl)) (hb 1))
     · exact fun _ W _ hW _ hb hd _ hK _ => gn_ hK (x_ld22 rfl (hd 7 44) ((hW.cell (World.block_lt_of_cell? _ _ CN.out)).trans CN.out))
     · exact fun _ W _ hW _ hb hd _ hK _ => gn_ hK (x_fa92 rfl (of_decide_eq_true (by kernel_rfl)) (hb 8))
     · exact fun _ W _ hW _ hb hd _ hK _ => gn_ hK (x_ld3 rfl (hd 9 46) ((hW.cell (World.block_lt_of_cell? _ _ CX1.out)).trans CX1.out))
     · exact fun _ W _ hW _ hb hd _ hK _ => gn_ hK (x_ixs rfl (hd 8 45) (hd 10 47) IX1.out.1 IX1.out.2 HM.out)
     · exact fun _ W _ hW _ hb hd _ hK _ => gn_ hK (x_ld9 rfl (hd 11 48) ((hW.cell (World.block_lt_of_cell? _ _ CS1.out)).trans CS1.out))
     · exact fun _ W _ hW _ hb hd _ hK _ => gn_ hK (x_fa92 rfl (of_decide_eq_true (by kernel_rfl)) (hb 8))
     · exact fun _ W _ hW _ hb hd _ hK _ => gn_ hK (x_ld3 rfl (hd 13 50) ((hW.cell (World.block_lt_of_cell? _ _ CX2.out)).trans CX2.out))
     · intro bq W B hW hB hb hd K hK hK2; exact gc_step (C := true) wn_ (fun _ => ⟨x_call Tryd.func51 (by kernel_rfl) rfl rfl (args1 (hd 14 51)), (itC _ hW _ SM2.out).mono (fun e_ W_ h_ => ⟨h_.1, h_.2⟩)⟩) (fun W_ hb_ => hK _ W_ rfl hb_)
     · intro b W B hW hB hb hd K hK hK2; exact lit_step rfl hW.size (by have h43 : b.eval (.tmp 43) = .string (sB (nm l0_0 y.f0)) := hd 6 43; replace h43 := tm_eval h43; have h49 : b.eval (.tmp 49) = .string (sB (nm l0_0 y.f1)) := hd 12 49; replace h49 := tm_eval h49; have h52 : b.eval (.tmp 52) = .string (sB (Lib.itoa y.f2)) := hd 15 52; replace h52 := tm_eval h52; unfold execOp; go_simp; done) hK2
     · intro vals F W B hF hW hBB hV
       have hf37 : vals 37 = .func (.func 48) #[] #[.pointer (some ⟨gb, 0, none⟩)] := hV 0 37 (of_decide_eq_true (by kernel_rfl)) rfl
       obtain ⟨gs, hfl, _, _, hgs⟩ := hV 16 53 (of_decide_eq_true (by kernel_rfl)) rfl
       replace HB := aM (HBd.out.trans (hW.mono HBd.out.size))
       replace HBU := aM (build_below (build_below HBU.out (below_drew (Below.refl _ _))) hW)
       replace BN := aK (aM (blk_drew BN.out)) hW
       rw [hF]
       clear hF hV hBB hW itC HBd
       have HGS := aM hgs
       clear hgs
       simp only [cond_true, List.take, fillA, Act.put, List.setIfInBounds_toArray, List.set_cons_zero, List.set_cons_succ, hf37, hfl]
       go_wp2_with fail
       refine (put_calls w.heap.size gb gs 5 _ [[108, 105, 110, 107],  nm l0_0 y.f0,  nm l0_0 y.f1,  [99, 111, 115, 116],  Lib.itoa y.f2] W HBU.out HB.out.size (by have q0 := sflat_le rL l0_0 l0_0.length HN.out.n0 (fun x hx => line_le (rL_le (HN.out.name x hx)) (by simp) (by decide)); rw [List.take_of_length_le (Nat.le_refl _)] at q0; have q1 := sflat_le (lL l0_0) l0_1 kk HN.out.n1 (fun x hx => line_le (lL_le HN.out.name (HN.out.link x hx).2.2) (by simp) (by decide)); simp only [List.length_append]; omega) (cellS HGS.out (by simp only [List.map_cons, List.map_nil]; rfl)) (blk_lt HGS.out) (by simp) (by simp) (Nat.le_trans (lL_le HN.out.name SM2.out) (by decide)) (Nat.le_refl _)).mono ?_
       rintro e wp ⟨rfl, hbu, hbp, hko⟩
       replace HBU := aM hbu
       replace BN := aM (hko gn _ BN.out (fun e => NN.out (Option.some.inj e)) (fun c fz => by intro e; cases e))
       replace HB := aM (HB.out.trans hbp)
       clear hbu hbp hko
       go_wp2
       go_roundg (l0_1.length - (kk + 1))
       case measure => exact sub_less hlt hg
       case rel => exact ⟨kk + 1, hlt, Nat.le_refl _, by rw [ew], ⟨by rw [flat_snoc (lL l0_0) l0_1 kk _ hy, ← List.append_assoc]; exact HBU.out⟩, BN, HB⟩
   · have hke : kk = l0_1.length := by omega
     subst hke
     replace HBU := aM (show Lib.IsBuilder 86 5 w.heap.size gb (Lib.byteCells (l0_0.flatMap rL ++ l0_1.flatMap (lL l0_0))) wr by have h := HBU.out; rwa [List.take_of_length_le (Nat.le_refl _)] at h)
     obtain ⟨wl1, hwl⟩ : ∃ x, x = wr := ⟨_, rfl⟩
     subst hwl
     obtain ⟨hn0, hn1, hn2, hn3, hn4, hn5⟩ := swc6 BN.out
     go_wp2
     go_loopg [59] l0_2.length (fun gg s59 wr => ∃ kk : Nat, kk ≤ l0_2.length ∧ l0_2.length - kk ≤ gg ∧ s59 = .int .i64 kk ∧ Aside0 (Lib.IsBuilder 86 5 w.heap.size gb (Lib.byteCells (l0_0.flatMap rL ++ l0_1.flatMap (lL l0_0) ++ (l0_2.take kk).flatMap (oL l0_0))) wr) ∧ Aside0 (wr.heap[gn]? = some (.cells #[.slice A0_0 l0_0.length c0_0, .slice A0_1 l0_1.length c0_1, .slice A0_2 l0_2.length c0_2, .slice A0_3 l0_3.length c0_3, .slice A0_4 l0_4.length c0_4, .slice A0_5 l0_5.length c0_5] 36 (0, 0))) ∧ Aside0 (Below w.heap.size w wr))
     case atStart => exact ⟨0, Nat.zero_le _, by omega, rfl, ⟨by rw [List.take_zero, List.flatMap_nil, List.append_nil]; exact HBU.out⟩, BN, HB⟩
     clear HBU BN HB hn0 hn1 hn2 hn3 hn4 hn5
     obtain ⟨kk, hkk, hg, rfl, HBU, BN, HB⟩ := hrel
     by_cases hlt : kk < l0_2.length
     · have hltz : (kk : Int) < (l0_2.length : Int) := by omega
       obtain ⟨ad1, ea1, hx⟩ := Kd.at_int HR0_2.out (kk : Int) (by omega) hltz
       cases ea1
       rw [Int.toNat_natCast] at hx
       have hy : l0_2[kk]? = some l0_2[kk] := List.getElem?_eq_getElem hlt
       have hrd : rd l0_2 (kk : Int) = l0_2[kk] := by unfold rd; simp [List.getD, hlt]
       rw [hrd] at hx
       have hmem := List.getElem_mem hlt
       obtain ⟨y, hyy⟩ : ∃ y, y = l0_2[kk] := ⟨_, rfl⟩
       rw [← hyy] at hy hx hmem
       clear hrd hyy
       replace hx := swB HB.out hx
       have hl := HN.out.orig _ hmem
       obtain ⟨ad, ea, CS0⟩ := Kd.at_string HR0_0.out y hl.1 hl.2
       cases ea
       rw [← sB_nm] at CS0
       replace CS0 := swB HB.out CS0
       have hp0 : 0 ≤ y := hl.1
       have hp1 : y < (l0_0.length : Int) := hl.2
       replace hp0 := eq_true hp0
       replace hp1 := eq_true hp1
       obtain ⟨hn0, hn1, hn2, hn3, hn4, hn5⟩ := swc6 BN.out
       have ew : wrap64 ((kk : Int) + 1) = ((kk + 1 : Nat) : Int) := by rw [wr64 (by omega) (by have := HN.out.n2; omega)]; omega
       go_wp2_with fail
       refine (put2 w.heap.size gb 2 _ [[111, 114, 105, 103, 105, 110],  nm l0_0 y] _ _ (by simp only [List.map_cons, List.map_nil]; rfl) rfl HBU.out HB.out.size (by have q0 := sflat_le rL l0_0 l0_0.length HN.out.n0 (fun x hx => line_le (rL_le (HN.out.name x hx)) (by simp) (by decide)); rw [List.take_of_length_le (Nat.le_refl _)] at q0; have q1 := sflat_le (lL l0_0) l0_1 l0_1.length HN.out.n1 (fun x hx => line_le (lL_le HN.out.name (HN.out.link x hx).2.2) (by simp) (by decide)); rw [List.take_of_length_le (Nat.le_refl _)] at q1; have q2 := sflat_le (oL l0_0) l0_2 kk HN.out.n2 (fun x hx => line_le (oL_le HN.out.name x) (by simp) (by decide)); simp only [List.length_append]; omega) (by decide) (by decide) (oL_le HN.out.name y)).mono ?_
       rintro e wp ⟨rfl, hbu, hbp, hko⟩
       replace HBU := aM hbu
       replace BN := aM (hko gn _ BN.out (fun e => NN.out (Option.some.inj e)) (fun c fz => by intro e; cases e))
       replace HB := aM (HB.out.trans hbp)
       clear hbu hbp hko
       go_wp2
       go_roundg (l0_2.length - (kk + 1))
       case measure => exact sub_less hlt hg
       case rel => exact ⟨kk + 1, hlt, Nat.le_refl _, by rw [ew], ⟨by rw [flat_snoc (oL l0_0) l0_2 kk _ hy, ← List.append_assoc]; exact HBU.out⟩, BN, HB⟩
     · have hke : kk = l0_2.length := by omega
       subst hke
       replace HBU := aM (show Lib.IsBuilder 86 5 w.heap.size gb (Lib.byteCells (l0_0.flatMap rL ++ l0_1.flatMap (lL l0_0) ++ l0_2.flatMap (oL l0_0))) wr by have h := HBU.out; rwa [List.take_of_length_le (Nat.le_refl _)] at h)
       obtain ⟨wl2, hwl⟩ : ∃ x, x = wr := ⟨_, rfl⟩
       subst hwl
       obtain ⟨hn0, hn1, hn2, hn3, hn4, hn5⟩ := swc6 BN.out
       go_wp2
       go_loopg [75] l0_3.length (fun gg s75 wr => ∃ kk : Nat, kk ≤ l0_3.length ∧ l0_3.length - kk ≤ gg ∧ s75 = .int .i64 kk ∧ Aside0 (Lib.IsBuilder 86 5 w.heap.size gb (Lib.byteCells (l0_0.flatMap rL ++ l0_1.flatMap (lL l0_0) ++ l0_2.flatMap (oL l0_0) ++ (l0_3.take kk).flatMap (eL l0_0))) wr) ∧ Aside0 (wr.heap[gn]? = some (.cells #[.slice A0_0 l0_0.length c0_0, .slice A0_1 l0_1.length c0_1, .slice A0_2 l0_2.length c0_2, .slice A0_3 l0_3.length c0_3, .slice A0_4 l0_4.length c0_4, .slice A0_5 l0_5.length c0_5] 36 (0, 0))) ∧ Aside0 (Below w.heap.size w wr))
       case atStart => exact ⟨0, Nat.zero_le _, by omega, rfl, ⟨by rw [List.take_zero, List.flatMap_nil, List.append_nil]; exact HBU.out⟩, BN, HB⟩
       clear HBU BN HB hn0 hn1 hn2 hn3 hn4 hn5
       obtain ⟨kk, hkk, hg, rfl, HBU, BN, HB⟩ := hrel
       by_cases hlt : kk < l0_3.length
       · have hltz : (kk : Int) < (l0_3.length : Int) := by omega
         obtain ⟨ad1, ea1, hx⟩ := Kd.at_int HR0_3.out (kk : Int) (by omega) hltz
         cases ea1
         rw [Int.toNat_natCast] at hx
         have hy : l0_3[kk]? = some l0_3[kk] := List.getElem?_eq_getElem hlt
         have hrd : rd l0_3 (kk : Int) = l0_3[kk] := by unfold rd; simp [List.getD, hlt]
         rw [hrd] at hx
         have hmem := List.getElem_mem hlt
         obtain ⟨y, hyy⟩ : ∃ y, y = l0_3[kk] := ⟨_, rfl⟩
         rw [← hyy] at hy hx hmem
         clear hrd hyy
         replace hx := swB HB.out hx
         have hl := HN.out.ext _ hmem
         obtain ⟨ad, ea, CS0⟩ := Kd.at_string HR0_0.out y hl.1 hl.2
         cases ea
         rw [← sB_nm] at CS0
         replace CS0 := swB HB.out CS0
         have hp0 : 0 ≤ y := hl.1
         have hp1 : y < (l0_0.length : Int) := hl.2
         replace hp0 := eq_true hp0
         replace hp1 := eq_true hp1
         obtain ⟨hn0, hn1, hn2, hn3, hn4, hn5⟩ := swc6 BN.out
         have ew : wrap64 ((kk : Int) + 1) = ((kk + 1 : Nat) : Int) := by rw [wr64 (by omega) (by have := HN.out.n3; omega)]; omega
         go_wp2_with fail
         refine (put2 w.heap.size gb 2 _ [[101, 120, 116, 101, 114, 110, 97, 108],  nm l0_0 y] _ _ (by simp only [List.map_cons, List.map_nil]; rfl) rfl HBU.out HB.out.size (by have q0 := sflat_le rL l0_0 l0_0.length HN.out.n0 (fun x hx => line_le (rL_le (HN.out.name x hx)) (by simp) (by decide)); rw [List.take_of_length_le (Nat.le_refl _)] at q0; have q1 := sflat_le (lL l0_0) l0_1 l0_1.length HN.out.n1 (fun x hx => line_le (lL_le HN.out.name (HN.out.link x hx).2.2) (by simp) (by decide)); rw [List.take_of_length_le (Nat.le_refl _)] at q1; have q2 := sflat_le (oL l0_0) l0_2 l0_2.length HN.out.n2 (fun x hx => line_le (oL_le HN.out.name x) (by simp) (by decide)); rw [List.take_of_length_le (Nat.le_refl _)] at q2; have q3 := sflat_le (eL l0_0) l0_3 kk HN.out.n3 (fun x hx => line_le (eL_le HN.out.name x) (by simp) (by decide)); simp only [List.length_append]; omega) (by decide) (by decide) (eL_le HN.out.name y)).mono ?_
         rintro e wp ⟨rfl, hbu, hbp, hko⟩
         replace HBU := aM hbu
         replace BN := aM (hko gn _ BN.out (fun e => NN.out (Option.some.inj e)) (fun c fz => by intro e; cases e))
         replace HB := aM (HB.out.trans hbp)
         clear hbu hbp hko
         go_wp2
         go_roundg (l0_3.length - (kk + 1))
         case measure => exact sub_less hlt hg
         case rel => exact ⟨kk + 1, hlt, Nat.le_refl _, by rw [ew], ⟨by rw [flat_snoc (eL l0_0) l0_3 kk _ hy, ← List.append_assoc]; exact HBU.out⟩, BN, HB⟩
       · have hke : kk = l0_3.length := by omega
         subst hke
         replace HBU := aM (show Lib.IsBuilder 86 5 w.heap.size gb (Lib.byteCells (l0_0.flatMap rL ++ l0_1.flatMap (lL l0_0) ++ l0_2.flatMap (oL l0_0) ++ l0_3.flatMap (eL l0_0))) wr by have h := HBU.out; rwa [List.take_of_length_le (Nat.le_refl _)] at h)
         obtain ⟨wl3, hwl⟩ : ∃ x, x = wr := ⟨_, rfl⟩
         subst hwl
         obtain ⟨hn0, hn1, hn2, hn3, hn4, hn5⟩ := swc6 BN.out
         go_wp2
         go_loopg [91] l0_4.length (fun gg s91 wr => ∃ kk : Nat, kk ≤ l0_4.length ∧ l0_4.length - kk ≤ gg ∧ s91 = .int .i64 kk ∧ Aside0 (Lib.IsBuilder 86 5 w.heap.size gb (Lib.byteCells (l0_0.flatMap rL ++ l0_1.flatMap (lL l0_0) ++ l0_2.flatMap (oL l0_0) ++ l0_3.flatMap (eL l0_0) ++ (l0_4.take kk).flatMap (iL l0_0))) wr) ∧ Aside0 (wr.heap[gn]? = some (.cells #[.slice A0_0 l0_0.length c0_0, .slice A0_1 l0_1.length c0_1, .slice A0_2 l0_2.length c0_2, .slice A0_3 l0_3.length c0_3, .slice A0_4 l0_4.length c0_4, .slice A0_5 l0_5.length c0_5] 36 (0, 0))) ∧ Aside0 (Below w.heap.size w wr))
         case atStart => exact ⟨0, Nat.zero_le _, by omega, rfl, ⟨by rw [List.take_zero, List.flatMap_nil, List.append_nil]; exact HBU.out⟩, BN, HB⟩
         clear HBU BN HB hn0 hn1 hn2 hn3 hn4 hn5
         obtain ⟨kk, hkk, hg, rfl, HBU, BN, HB⟩ := hrel
         by_cases hlt : kk < l0_4.length
         · have hltz : (kk : Int) < (l0_4.length : Int) := by omega
           obtain ⟨ad1, ea1, e0, e1, e2, e3, e4⟩ := at_T95 HR0_4.out (kk : Int) (by omega) hltz
           cases ea1
           rw [Int.toNat_natCast] at e0 e1 e2 e3 e4
           have hy : l0_4[kk]? = some l0_4[kk] := List.getElem?_eq_getElem hlt
           have hrd : rd_T95 l0_4 (kk : Int) = l0_4[kk] := by unfold rd_T95; simp [List.getD, hlt]
           rw [hrd] at e0 e1 e2 e3 e4
           have hmem := List.getElem_mem hlt
           obtain ⟨y, hyy⟩ : ∃ y, y = l0_4[kk] := ⟨_, rfl⟩
           rw [← hyy] at hy e0 e1 e2 e3 e4 hmem
           clear hrd hyy
           replace e0 := swB HB.out e0
           replace e1 := swB HB.out e1
           replace e2 := swB HB.out e2
           replace e3 := swB HB.out e3
           replace e4 := swB HB.out e4
           have hl := HN.out.imp _ hmem
           obtain ⟨ad, ea, CS0⟩ := Kd.at_string HR0_0.out y.f0 hl.1.1 hl.1.2
           cases ea
           obtain ⟨ad', ea', CS1⟩ := Kd.at_string HR0_0.out y.f1 hl.2.1.1 hl.2.1.2
           obtain rfl := Option.some.inj ea'
           rw [← sB_nm] at CS0 CS1
           have HM : Aside0 (l0_0.length ≤ 9223372036854775807) := ⟨by have := HN.out.n0; omega⟩
           have IX0 := aM hl.1
           have IX1 := aM hl.2.1
           have SM4 := aM hl.2.2.2.2
           have IX2 := aM hl.2.2.1
           have ew : wrap64 ((kk : Int) + 1) = ((kk + 1 : Nat) : Int) := by rw [wr64 (by omega) (by have := HN.out.n4; omega)]; omega
           go_upto_region 26 with (first | ((with_reducible refine gate_dst (N := 14) rfl ?_); refine box_event rfl (N := 14) rfl (cs := #[.int .i64 0, .int .i64 0, .int .i64 0, .int .i64 0, .int .i64 0]) (t := 65) (by go_simp; done) ?_; intro g8 hg8 w8 hbox hbb; have HX := aM hbox; have HG8 := aM (Nat.le_of_eq hg8.symm : wr.heap.size ≤ g8); have HB8 := aM hbb; clear hbox hbb hg8) | ((with_reducible refine gate_store (t := 65) (p := 14) rfl ?_); obtain ⟨hc0, hc1, hc2, hc3, hc4⟩ := swc5 HX.out; have hf0 := blk_frozen HX.out 0; have hf1 := blk_frozen HX.out 1; have hf2 := blk_frozen HX.out 2; have hf3 := blk_frozen HX.out 3; have hf4 := blk_frozen HX.out 4; refine store_event (t := 65) (p := 14) (v := ?vo26) (w1 := (((((w8.setCell ⟨g8, 0, none⟩ (.int .i64 y.f0)).setCell ⟨g8, 1, none⟩ (.int .i64 y.f1)).setCell ⟨g8, 2, none⟩ (.int .i64 y.f2)).setCell ⟨g8, 3, none⟩ (.int .i64 y.f3)).setCell ⟨g8, 4, none⟩ (.int .i64 y.f4))) ?hg26 ?ho26 ?hn26 ?hr26 ?_; (case ho26 => rfl); (case hg26 => rfl); (case hn26 => rfl); (case hr26 => (go_simp; done)); clear hc0 hf0 hc1 hf1 hc2 hf2 hc3 hf3 hc4 hf4; intro w9 hw_; obtain ⟨hbk, hkb, hkw⟩ := boxi5 (a0 := y.f0) (a1 := y.f1) (a2 := y.f2) (a3 := y.f3) (a4 := y.f4) HX.out; rw [← hw_] at hbk hkb hkw; clear hw_ hkb; have HB9 := aM (hkw wr HB8.out HG8.out); replace HX := aM hbk; replace HBU := aM (build_below HBU.out HB9.out); replace BN := aK BN HB9.out; replace HB := aB HB HB9.out; clear hbk hkw))
           obtain ⟨cn0, cn1, cn2, cn3, cn4, cn5⟩ := swc6 BN.out
           have CN := aM cn0
           obtain ⟨cx0, cx1, cx2, cx3, cx4⟩ := swc5 HX.out
           have CX0 := aM cx0
           have CX1 := aM cx1
           have CX2 := aM cx2
           have CX3 := aM cx3
           have CX4 := aM cx4
           replace CS0 := aM (swB HB.out CS0)
           replace CS1 := aM (swB HB.out CS1)
           clear cn0 cn1 cn2 cn3 cn4 cn5 cx0 cx1 cx2 cx3 cx4
           have HBd : Aside0 (Below w.heap.size w w9.drew) := ⟨below_drew HB.out⟩
           have itC : ∀ W, Below w9.drew.heap.size w9.drew W → ∀ n, smallI n → Calls Tryd.prog 51 #[.int .i64 n] W fun e W' => e = .returned (.string (sB (Lib.itoa n))) ∧ Below W.heap.size W W' := fun W hW n hn => itoa_sB n W (tab_below (tab_below HT.out HBd.out) hW) (by have := hn.1; omega) (by have := hn.2; omega)
           have doC : ∀ W, Below w9.drew.heap.size w9.drew W → Calls Tryd.prog 52 #[.agg #[.int .i64 y.f0, .int .i64 y.f1, .int .i64 y.f2, .int .i64 y.f3, .int .i64 y.f4]] W fun e W' => e = .returned (.string (sB (doT y.f3 y.f4))) ∧ Below W.heap.size W W' := fun W hW => doText_calls _ _ _ _ _ W (tab_below (tab_below HT.out HBd.out) hW) SM4.out
           have CW := aM (swB HB.out (when_cell HW.out y.f2 IX2.out.1 IX2.out.2))
           have hq1 := nm_le HN.out.name y.f1
           have hq2 := when_le y.f2
           have hq3 := do_le (d := y.f3) SM4.out
           refine any_tail [some 95, some 96, some 97, some 98, some 99, some 100, some 101, some 102, some 103, some 104, some 105, some 106, some 107, some 108, some 109, some 110, some 111, some 112, some 113, some 114, some 115, some 116, some 117] 149 22 [0, 0, 2, 0, 8, 30, 62, 0, 128, 0, 512, 1920, 3968, 0, 8192, 24576, 57344, 130944, 0, 262144, 1048448, 2097150, 4194303] [VP.eq (.func (.func 48) #[] #[.pointer (some ⟨gb, 0, none⟩)]), VP.eq (.pointer (some ⟨gn, 0, none⟩)), VP.eq (.slice (some ad) l0_0.length c0_0), VP.eq (.pointer (some ⟨g8, 0, none⟩)), VP.eq (.int .i64 (y.f0)), VP.eq (.pointer (some (ad.add (y.f0).toNat))), VP.eq (.string (sB (nm l0_0 y.f0))), VP.eq (.pointer (some ⟨gn, 0, none⟩)), VP.eq (.slice (some ad) l0_0.length c0_0), VP.eq (.pointer (some ⟨g8, 1, none⟩)), VP.eq (.int .i64 (y.f1)), VP.eq (.pointer (some (ad.add (y.f1).toNat))), VP.eq (.string (sB (nm l0_0 y.f1))), VP.eq (.pointer (some ⟨g8, 2, none⟩)), VP.eq (.int .i64 (y.f2)), VP.eq (.pointer (some (⟨0, (y.f2).toNat, none⟩))), VP.eq (.string (sB (whenT y.f2))), VP.eq (.string (sB ((nm l0_0 y.f1) ++ (whenT y.f2)))), VP.eq (.agg #[.int .i64 y.f0, .int .i64 y.f1, .int .i64 y.f2, .int .i64 y.f3, .int .i64 y.f4]), VP.eq (.string (sB (doT y.f3 y.f4))), VP.eq (.string (sB (((nm l0_0 y.f1) ++ (whenT y.f2)) ++ (doT y.f3 y.f4)))), VP.lit w9.drew.heap.size 4 #[.string ⟨#[105, 109, 112, 111, 114, 116]⟩, .string (sB (nm l0_0 y.f0)), .string ⟨#[102, 114, 111, 109]⟩, .string (sB (((nm l0_0 y.f1) ++ (whenT y.f2)) ++ (doT y.f3 y.f4)))]] rfl nt_r26_tab rfl rfl (by kernel_rfl) rfl ⟨?_, ?_, ?_, ?_, ?_, ?_, ?_, ?_, ?_, ?_, ?_, ?_, ?_, ?_, ?_, ?_, ?_, ?_, ?_, ?_, ?_, ?_, trivial⟩ ?_
           · exact fun _ W _ hW _ hb hd _ hK _ => gn_ hK (x_move rfl (hb 4))
           · exact fun _ W _ hW _ hb hd _ hK _ => gn_ hK (x_fa38 rfl (of_decide_eq_true (by kernel_rfl)) (hb 1))
           · exact fun _ W _ hW _ hb hd _ hK _ => gn_ hK (x_ld22 rfl (hd 1 96) ((hW.cell (World.block_lt_of_cell? _ _ CN.out)).trans CN.out))
           · exact fun _ W _ hW _ hb hd _ hK _ => gn_ hK (x_fa95 rfl (of_decide_eq_true (by kernel_rfl)) (hb 14))
           · exact fun _ W _ hW _ hb hd _ hK _ => gn_ hK (x_ld3 rfl (hd 3 98) ((hW.cell (World.block_lt_of_cell? _ _ CX0.out)).trans CX0.out))
           · exact fun _ W _ hW _ hb hd _ hK _ => gn_ hK (x_ixs rfl (hd 2 97) (hd 4 99) IX0.out.1 IX0.out.2 HM.out)
           · exact fun _ W _ hW _ hb hd _ hK _ => gn_ hK (x_ld9 rfl (hd 5 100) ((hW.cell (World.block_lt_of_cell? _ _ CS0.out)).trans CS0.out))
           · exact fun _ W _ hW _ hb hd _ hK _ => gn_ hK (x_fa38 rfl (of_decide_eq_true (by kernel_rfl)) (hb 1))
           · exact fun _ W _ hW _ hb hd _ hK _ => gn_ hK (x_ld22 rfl (hd 7 102) ((hW.cell (World.block_lt_of_cell? _ _ CN.out)).trans CN.out))
           · exact fun _ W _ hW _ hb hd _ hK _ => gn_ hK (x_fa95 rfl (of_decide_eq_true (by kernel_rfl)) (hb 14))
           · exact fun _ W _ hW _ hb hd _ hK _ => gn_ hK (x_ld3 rfl (hd 9 104) ((hW.cell (World.block_lt_of_cell? _ _ CX1.out)).trans CX1.out))
           · exact fun _ W _ hW _ hb hd _ hK _ => gn_ hK (x_ixs rfl (hd 8 103) (hd 10 105) IX1.out.1 IX1.out.2 HM.out)
           · exact fun _ W _ hW _ hb hd _ hK _ => gn_ hK (x_ld9 rfl (hd 11 106) ((hW.cell (World.block_lt_of_cell? _ _ CS1.out)).trans CS1.out))
           · exact fun _ W _ hW _ hb hd _ hK _ => gn_ hK (x_fa95 rfl (of_decide_eq_true (by kernel_rfl)) (hb 14))
           · exact fun _ W _ hW _ hb hd _ hK _ => gn_ hK (x_ld3 rfl (hd 13 108) ((hW.cell (World.block_lt_of_cell? _ _ CX2.out)).trans CX2.out))
           · exact fun _ W _ hW _ hb hd _ hK _ => gn_ hK (x_ix93 rfl rfl (hd 14 109) IX2.out.1 IX2.out.2)
           · exact fun _ W _ hW _ hb hd _ hK _ => gn_ hK (x_ld9 rfl (hd 15 110) ((hW.cell (World.block_lt_of_cell? _ _ CW.out)).trans CW.out))
           · exact fun _ W _ hW _ hb hd _ hK _ => gn_ hK (x_adds rfl (hd 12 107) (hd 16 111) (sB_add ((nm l0_0 y.f1)) ((whenT y.f2))) (by show (sB ((nm l0_0 y.f1))).size + (sB ((whenT y.f2))).size ≤ 9223372036854775807; rw [sB_size, sB_size]; (try simp only [List.length_append, List.length_cons, List.length_nil]); omega))
           · exact fun _ W _ hW _ hb hd _ hK _ => gn_ hK (x_ld65 rfl (hb 14) (blk_below (blk_drew HX.out) hW))
           · intro bq W B hW hB hb hd K hK hK2; exact gc_step (C := true) wn_ (fun _ => ⟨x_call Tryd.func52 (by kernel_rfl) rfl rfl (args1 (hd 18 113)), (doC _ hW).mono (fun e_ W_ h_ => ⟨h_.1, h_.2⟩)⟩) (fun W_ hb_ => hK _ W_ rfl hb_)
           · exact fun _ W _ hW _ hb hd _ hK _ => gn_ hK (x_adds rfl (hd 17 112) (hd 19 114) (sB_add (((nm l0_0 y.f1) ++ (whenT y.f2))) ((doT y.f3 y.f4))) (by show (sB (((nm l0_0 y.f1) ++ (whenT y.f2)))).size + (sB ((doT y.f3 y.f4))).size ≤ 9223372036854775807; rw [sB_size, sB_size]; (try simp only [List.length_append, List.length_cons, List.length_nil]); omega))
           · intro b W B hW hB hb hd K hK hK2; exact lit_step rfl hW.size (by have h101 : b.eval (.tmp 101) = .string (sB (nm l0_0 y.f0)) := hd 6 101; replace h101 := tm_eval h101; have h115 : b.eval (.tmp 115) = .string (sB (((nm l0_0 y.f1) ++ (whenT y.f2)) ++ (doT y.f3 y.f4))) := hd 20 115; replace h115 := tm_eval h115; unfold execOp; go_simp; done) hK2
           · intro vals F W B hF hW hBB hV
             have hf95 : vals 95 = .func (.func 48) #[] #[.pointer (some ⟨gb, 0, none⟩)] := hV 0 95 (of_decide_eq_true (by kernel_rfl)) rfl
             obtain ⟨gs, hfl, _, _, hgs⟩ := hV 21 116 (of_decide_eq_true (by kernel_rfl)) rfl
             replace HB := aM (HBd.out.trans (hW.mono HBd.out.size))
             replace HBU := aM (build_below (build_below HBU.out (below_drew (Below.refl _ _))) hW)
             replace BN := aK (aM (blk_drew BN.out)) hW
             rw [hF]
             clear hF hV hBB hW itC doC HBd
             have HGS := aM hgs
             clear hgs
             simp only [cond_true, List.take, fillA, Act.put, List.setIfInBounds_toArray, List.set_cons_zero, List.set_cons_succ, hf95, hfl]
             go_wp2_with fail
             refine (put_calls w.heap.size gb gs 4 _ [[105, 109, 112, 111, 114, 116],  nm l0_0 y.f0,  [102, 114, 111, 109],  nm l0_0 y.f1 ++ whenT y.f2 ++ doT y.f3 y.f4] W HBU.out HB.out.size (by have q0 := sflat_le rL l0_0 l0_0.length HN.out.n0 (fun x hx => line_le (rL_le (HN.out.name x hx)) (by simp) (by decide)); rw [List.take_of_length_le (Nat.le_refl _)] at q0; have q1 := sflat_le (lL l0_0) l0_1 l0_1.length HN.out.n1 (fun x hx => line_le (lL_le HN.out.name (HN.out.link x hx).2.2) (by simp) (by decide)); rw [List.take_of_length_le (Nat.le_refl _)] at q1; have q2 := sflat_le (oL l0_0) l0_2 l0_2.length HN.out.n2 (fun x hx => line_le (oL_le HN.out.name x) (by simp) (by decide)); rw [List.take_of_length_le (Nat.le_refl _)] at q2; have q3 := sflat_le (eL l0_0) l0_3 l0_3.length HN.out.n3 (fun x hx => line_le (eL_le HN.out.name x) (by simp) (by decide)); rw [List.take_of_length_le (Nat.le_refl _)] at q3; have q4 := sflat_le (iL l0_0) l0_4 kk HN.out.n4 (fun x hx => line_le (iL_le HN.out.name (HN.out.imp x hx).2.2.2.2) (by simp) (by decide)); simp only [List.length_append]; omega) (cellS HGS.out (by simp only [List.map_cons, List.map_nil]; rfl)) (blk_lt HGS.out) (by simp) (by simp) (Nat.le_trans (iL_le HN.out.name SM4.out) (by decide)) (Nat.le_refl _)).mono ?_
             rintro e wp ⟨rfl, hbu, hbp, hko⟩
             replace HBU := aM hbu
             replace BN := aM (hko gn _ BN.out (fun e => NN.out (Option.some.inj e)) (fun c fz => by intro e; cases e))
             replace HB := aM (HB.out.trans hbp)
             clear hbu hbp hko
             go_wp2
             go_roundg (l0_4.length - (kk + 1))
             case measure => exact sub_less hlt hg
             case rel => exact ⟨kk + 1, hlt, Nat.le_refl _, by rw [ew], ⟨by rw [flat_snoc (iL l0_0) l0_4 kk _ hy, ← List.append_assoc]; exact HBU.out⟩, BN, HB⟩
         · have hke : kk = l0_4.length := by omega
           subst hke
           replace HBU := aM (show Lib.IsBuilder 86 5 w.heap.size gb (Lib.byteCells (l0_0.flatMap rL ++ l0_1.flatMap (lL l0_0) ++ l0_2.flatMap (oL l0_0) ++ l0_3.flatMap (eL l0_0) ++ l0_4.flatMap (iL l0_0))) wr by have h := HBU.out; rwa [List.take_of_length_le (Nat.le_refl _)] at h)
           obtain ⟨wl4, hwl⟩ : ∃ x, x = wr := ⟨_, rfl⟩
           subst hwl
           obtain ⟨hn0, hn1, hn2, hn3, hn4, hn5⟩ := swc6 BN.out
           go_wp2
           go_loopg [122] l0_5.length (fun gg s122 wr => ∃ kk : Nat, kk ≤ l0_5.length ∧ l0_5.length - kk ≤ gg ∧ s122 = .int .i64 kk ∧ Aside0 (Lib.IsBuilder 86 5 w.heap.size gb (Lib.byteCells (l0_0.flatMap rL ++ l0_1.flatMap (lL l0_0) ++ l0_2.flatMap (oL l0_0) ++ l0_3.flatMap (eL l0_0) ++ l0_4.flatMap (iL l0_0) ++ (l0_5.take kk).flatMap (fL l0_0))) wr) ∧ Aside0 (wr.heap[gn]? = some (.cells #[.slice A0_0 l0_0.length c0_0, .slice A0_1 l0_1.length c0_1, .slice A0_2 l0_2.length c0_2, .slice A0_3 l0_3.length c0_3, .slice A0_4 l0_4.length c0_4, .slice A0_5 l0_5.length c0_5] 36 (0, 0))) ∧ Aside0 (Below w.heap.size w wr))
           case atStart => exact ⟨0, Nat.zero_le _, by omega, rfl, ⟨by rw [List.take_zero, List.flatMap_nil, List.append_nil]; exact HBU.out⟩, BN, HB⟩
           clear HBU BN HB hn0 hn1 hn2 hn3 hn4 hn5
           obtain ⟨kk, hkk, hg, rfl, HBU, BN, HB⟩ := hrel
           by_cases hlt : kk < l0_5.length
           · have hltz : (kk : Int) < (l0_5.length : Int) := by omega
             obtain ⟨ad1, ea1, e0, e1, e2, e3⟩ := at_T97 HR0_5.out (kk : Int) (by omega) hltz
             cases ea1
             rw [Int.toNat_natCast] at e0 e1 e2 e3
             have hy : l0_5[kk]? = some l0_5[kk] := List.getElem?_eq_getElem hlt
             have hrd : rd_T97 l0_5 (kk : Int) = l0_5[kk] := by unfold rd_T97; simp [List.getD, hlt]
             rw [hrd] at e0 e1 e2 e3
             have hmem := List.getElem_mem hlt
             obtain ⟨y, hyy⟩ : ∃ y, y = l0_5[kk] := ⟨_, rfl⟩
             rw [← hyy] at hy e0 e1 e2 e3 hmem
             clear hrd hyy
             replace e0 := swB HB.out e0
             replace e1 := swB HB.out e1
             replace e2 := swB HB.out e2
             replace e3 := swB HB.out e3
             have hl := HN.out.filt _ hmem
             obtain ⟨ad, ea, CS0⟩ := Kd.at_string HR0_0.out y.f0 hl.1.1 hl.1.2
             cases ea
             obtain ⟨ad', ea', CS1⟩ := Kd.at_string HR0_0.out y.f1 hl.2.1.1 hl.2.1.2
             obtain rfl := Option.some.inj ea'
             rw [← sB_nm] at CS0 CS1
             have HM : Aside0 (l0_0.length ≤ 9223372036854775807) := ⟨by have := HN.out.n0; omega⟩
             have IX0 := aM hl.1
             have IX1 := aM hl.2.1
             have SM2 := aM hl.2.2.1
             have SM3 := aM hl.2.2.2
             have ew : wrap64 ((kk : Int) + 1) = ((kk + 1 : Nat) : Int) := by rw [wr64 (by omega) (by have := HN.out.n5; omega)]; omega
             go_upto_region 31 with (first | ((with_reducible refine gate_dst (N := 16) rfl ?_); refine box_event rfl (N := 16) rfl (cs := #[.int .i64 0, .int .i64 0, .int .i64 0, .int .i64 0]) (t := 67) (by go_simp; done) ?_; intro g8 hg8 w8 hbox hbb; have HX := aM hbox; have HG8 := aM (Nat.le_of_eq hg8.symm : wr.heap.size ≤ g8); have HB8 := aM hbb; clear hbox hbb hg8) | ((with_reducible refine gate_store (t := 67) (p := 16) rfl ?_); obtain ⟨hc0, hc1, hc2, hc3⟩ := swc4 HX.out; have hf0 := blk_frozen HX.out 0; have hf1 := blk_frozen HX.out 1; have hf2 := blk_frozen HX.out 2; have hf3 := blk_frozen HX.out 3; refine store_event (t := 67) (p := 16) (v := ?vo31) (w1 := ((((w8.setCell ⟨g8, 0, none⟩ (.int .i64 y.f0)).setCell ⟨g8, 1, none⟩ (.int .i64 y.f1)).setCell ⟨g8, 2, none⟩ (.int .i64 y.f2)).setCell ⟨g8, 3, none⟩ (.int .i64 y.f3))) ?hg31 ?ho31 ?hn31 ?hr31 ?_; (case ho31 => rfl); (case hg31 => rfl); (case hn31 => rfl); (case hr31 => (go_simp; done)); clear hc0 hf0 hc1 hf1 hc2 hf2 hc3 hf3; intro w9 hw_; obtain ⟨hbk, hkb, hkw⟩ := boxi4 (a0 := y.f0) (a1 := y.f1) (a2 := y.f2) (a3 := y.f3) HX.out; rw [← hw_] at hbk hkb hkw; clear hw_ hkb; have HB9 := aM (hkw wr HB8.out HG8.out); replace HX := aM hbk; replace HBU := aM (build_below HBU.out HB9.out); replace BN := aK BN HB9.out; replace HB := aB HB HB9.out; clear hbk hkw))
             obtain ⟨cn0, cn1, cn2, cn3, cn4, cn5⟩ := swc6 BN.out
             have CN := aM cn0
             obtain ⟨cx0, cx1, cx2, cx3⟩ := swc4 HX.out
             have CX0 := aM cx0
             have CX1 := aM cx1
             have CX2 := aM cx2
             have CX3 := aM cx3
             replace CS0 := aM (swB HB.out CS0)
             replace CS1 := aM (swB HB.out CS1)
             clear cn0 cn1 cn2 cn3 cn4 cn5 cx0 cx1 cx2 cx3
             have HBd : Aside0 (Below w.heap.size w w9.drew) := ⟨below_drew HB.out⟩
             have itC : ∀ W, Below w9.drew.heap.size w9.drew W → ∀ n, smallI n → Calls Tryd.prog 51 #[.int .i64 n] W fun e W' => e = .returned (.string (sB (Lib.itoa n))) ∧ Below W.heap.size W W' := fun W hW n hn => itoa_sB n W (tab_below (tab_below HT.out HBd.out) hW) (by have := hn.1; omega) (by have := hn.2; omega)
             refine any_tail [some 126, some 127, some 128, some 129, some 130, some 131, some 132, some 133, some 134, some 135, some 136, some 137, some 138, some 139, some 140, some 141, some 142, some 143, some 144, some 145, some 146] 149 20 [0, 0, 2, 0, 8, 30, 62, 0, 128, 0, 512, 1920, 3968, 0, 8192, 24576, 0, 65536, 253952, 524286, 1048575] [VP.eq (.func (.func 48) #[] #[.pointer (some ⟨gb, 0, none⟩)]), VP.eq (.pointer (some ⟨gn, 0, none⟩)), VP.eq (.slice (some ad) l0_0.length c0_0), VP.eq (.pointer (some ⟨g8, 0, none⟩)), VP.eq (.int .i64 (y.f0)), VP.eq (.pointer (some (ad.add (y.f0).toNat))), VP.eq (.string (sB (nm l0_0 y.f0))), VP.eq (.pointer (some ⟨gn, 0, none⟩)), VP.eq (.slice (some ad) l0_0.length c0_0), VP.eq (.pointer (some ⟨g8, 1, none⟩)), VP.eq (.int .i64 (y.f1)), VP.eq (.pointer (some (ad.add (y.f1).toNat))), VP.eq (.string (sB (nm l0_0 y.f1))), VP.eq (.pointer (some ⟨g8, 2, none⟩)), VP.eq (.int .i64 (y.f2)), VP.eq (.string (sB (Lib.itoa y.f2))), VP.eq (.pointer (some ⟨g8, 3, none⟩)), VP.eq (.int .i64 (y.f3)), VP.eq (.string (sB (Lib.itoa y.f3))), VP.lit w9.drew.heap.size 7 #[.string ⟨#[102, 105, 108, 116, 101, 114]⟩, .string (sB (nm l0_0 y.f0)), .string ⟨#[116, 111]⟩, .string (sB (nm l0_0 y.f1)), .string ⟨#[112, 111, 114, 116]⟩, .string (sB (Lib.itoa y.f2)), .string (sB (Lib.itoa y.f3))]] rfl nt_r31_tab rfl rfl (by kernel_rfl) rfl ⟨?_, ?_, ?_, ?_, ?_, ?_, ?_, ?_, ?_, ?_, ?_, ?_, ?_, ?_, ?_, ?_, ?_, ?_, ?_, ?_, trivial⟩ ?_
             · exact fun _ W _ hW _ hb hd _ hK _ => gn_ hK (x_move rfl (hb 4))
             · exact fun _ W _ hW _ hb hd _ hK _ => gn_ hK (x_fa38 rfl (of_decide_eq_true (by kernel_rfl)) (hb 1))
             · exact fun _ W _ hW _ hb hd _ hK _ => gn_ hK (x_ld22 rfl (hd 1 127) ((hW.cell (World.block_lt_of_cell? _ _ CN.out)).trans CN.out))
             · exact fun _ W _ hW _ hb hd _ hK _ => gn_ hK (x_fa97 rfl (of_decide_eq_true (by kernel_rfl)) (hb 16))
             · exact fun _ W _ hW _ hb hd _ hK _ => gn_ hK (x_ld3 rfl (hd 3 129) ((hW.cell (World.block_lt_of_cell? _ _ CX0.out)).trans CX0.out))
             · exact fun _ W _ hW _ hb hd _ hK _ => gn_ hK (x_ixs rfl (hd 2 128) (hd 4 130) IX0.out.1 IX0.out.2 HM.out)
             · exact fun _ W _ hW _ hb hd _ hK _ => gn_ hK (x_ld9 rfl (hd 5 131) ((hW.cell (World.block_lt_of_cell? _ _ CS0.out)).trans CS0.out))
             · exact fun _ W _ hW _ hb hd _ hK _ => gn_ hK (x_fa38 rfl (of_decide_eq_true (by kernel_rfl)) (hb 1))
             · exact fun _ W _ hW _ hb hd _ hK _ => gn_ hK (x_ld22 rfl (hd 7 133) ((hW.cell (World.block_lt_of_cell? _ _ CN.out)).trans CN.out))
             · exact fun _ W _ hW _ hb hd _ hK _ => gn_ hK (x_fa97 rfl (of_decide_eq_true (by kernel_rfl)) (hb 16))
             · exact fun _ W _ hW _ hb hd _ hK _ => gn_ hK (x_ld3 rfl (hd 9 135) ((hW.cell (World.block_lt_of_cell? _ _ CX1.out)).trans CX1.out))
             · exact fun _ W _ hW _ hb hd _ hK _ => gn_ hK (x_ixs rfl (hd 8 134) (hd 10 136) IX1.out.1 IX1.out.2 HM.out)
             · exact fun _ W _ hW _ hb hd _ hK _ => gn_ hK (x_ld9 rfl (hd 11 137) ((hW.cell (World.block_lt_of_cell? _ _ CS1.out)).trans CS1.out))
             · exact fun _ W _ hW _ hb hd _ hK _ => gn_ hK (x_fa97 rfl (of_decide_eq_true (by kernel_rfl)) (hb 16))
             · exact fun _ W _ hW _ hb hd _ hK _ => gn_ hK (x_ld3 rfl (hd 13 139) ((hW.cell (World.block_lt_of_cell? _ _ CX2.out)).trans CX2.out))
             · intro bq W B hW hB hb hd K hK hK2; exact gc_step (C := true) wn_ (fun _ => ⟨x_call Tryd.func51 (by kernel_rfl) rfl rfl (args1 (hd 14 140)), (itC _ hW _ SM2.out).mono (fun e_ W_ h_ => ⟨h_.1, h_.2⟩)⟩) (fun W_ hb_ => hK _ W_ rfl hb_)
             · exact fun _ W _ hW _ hb hd _ hK _ => gn_ hK (x_fa97 rfl (of_decide_eq_true (by kernel_rfl)) (hb 16))
             · exact fun _ W _ hW _ hb hd _ hK _ => gn_ hK (x_ld3 rfl (hd 16 142) ((hW.cell (World.block_lt_of_cell? _ _ CX3.out)).trans CX3.out))
             · intro bq W B hW hB hb hd K hK hK2; exact gc_step (C := true) wn_ (fun _ => ⟨x_call Tryd.func51 (by kernel_rfl) rfl rfl (args1 (hd 17 143)), (itC _ hW _ SM3.out).mono (fun e_ W_ h_ => ⟨h_.1, h_.2⟩)⟩) (fun W_ hb_ => hK _ W_ rfl hb_)
             · intro b W B hW hB hb hd K hK hK2; exact lit_step rfl hW.size (by have h132 : b.eval (.tmp 132) = .string (sB (nm l0_0 y.f0)) := hd 6 132; replace h132 := tm_eval h132; have h138 : b.eval (.tmp 138) = .string (sB (nm l0_0 y.f1)) := hd 12 138; replace h138 := tm_eval h138; have h141 : b.eval (.tmp 141) = .string (sB (Lib.itoa y.f2)) := hd 15 141; replace h141 := tm_eval h141; have h144 : b.eval (.tmp 144) = .string (sB (Lib.itoa y.f3)) := hd 18 144; replace h144 := tm_eval h144; unfold execOp; go_simp; done) hK2
             · intro vals F W B hF hW hBB hV
               have hf126 : vals 126 = .func (.func 48) #[] #[.pointer (some ⟨gb, 0, none⟩)] := hV 0 126 (of_decide_eq_true (by kernel_rfl)) rfl
               obtain ⟨gs, hfl, _, _, hgs⟩ := hV 19 145 (of_decide_eq_true (by kernel_rfl)) rfl
               replace HB := aM (HBd.out.trans (hW.mono HBd.out.size))
               replace HBU := aM (build_below (build_below HBU.out (below_drew (Below.refl _ _))) hW)
               replace BN := aK (aM (blk_drew BN.out)) hW
               rw [hF]
               clear hF hV hBB hW itC HBd
               have HGS := aM hgs
               clear hgs
               simp only [cond_true, List.take, fillA, Act.put, List.setIfInBounds_toArray, List.set_cons_zero, List.set_cons_succ, hf126, hfl]
               go_wp2_with fail
               refine (put_calls w.heap.size gb gs 7 _ [[102, 105, 108, 116, 101, 114],  nm l0_0 y.f0,  [116, 111],  nm l0_0 y.f1,  [112, 111, 114, 116],  Lib.itoa y.f2,  Lib.itoa y.f3] W HBU.out HB.out.size (by have q0 := sflat_le rL l0_0 l0_0.length HN.out.n0 (fun x hx => line_le (rL_le (HN.out.name x hx)) (by simp) (by decide)); rw [List.take_of_length_le (Nat.le_refl _)] at q0; have q1 := sflat_le (lL l0_0) l0_1 l0_1.length HN.out.n1 (fun x hx => line_le (lL_le HN.out.name (HN.out.link x hx).2.2) (by simp) (by decide)); rw [List.take_of_length_le (Nat.le_refl _)] at q1; have q2 := sflat_le (oL l0_0) l0_2 l0_2.length HN.out.n2 (fun x hx => line_le (oL_le HN.out.name x) (by simp) (by decide)); rw [List.take_of_length_le (Nat.le_refl _)] at q2; have q3 := sflat_le (eL l0_0) l0_3 l0_3.length HN.out.n3 (fun x hx => line_le (eL_le HN.out.name x) (by simp) (by decide)); rw [List.take_of_length_le (Nat.le_refl _)] at q3; have q4 := sflat_le (iL l0_0) l0_4 l0_4.length HN.out.n4 (fun x hx => line_le (iL_le HN.out.name (HN.out.imp x hx).2.2.2.2) (by simp) (by decide)); rw [List.take_of_length_le (Nat.le_refl _)] at q4; have q5 := sflat_le (fL l0_0) l0_5 kk HN.out.n5 (fun x hx => line_le (fL_le HN.out.name (HN.out.filt x hx).2.2.1 (HN.out.filt x hx).2.2.2) (by simp) (by decide)); simp only [List.length_append]; omega) (cellS HGS.out (by simp only [List.map_cons, List.map_nil]; rfl)) (blk_lt HGS.out) (by simp) (by simp) (Nat.le_trans (fL_le HN.out.name SM2.out SM3.out) (by decide)) (Nat.le_refl _)).mono ?_
               rintro e wp ⟨rfl, hbu, hbp, hko⟩
               replace HBU := aM hbu
               replace BN := aM (hko gn _ BN.out (fun e => NN.out (Option.some.inj e)) (fun c fz => by intro e; cases e))
               replace HB := aM (HB.out.trans hbp)
               clear hbu hbp hko
               go_wp2
               go_roundg (l0_5.length - (kk + 1))
               case measure => exact sub_less hlt hg
               case rel => exact ⟨kk + 1, hlt, Nat.le_refl _, by rw [ew], ⟨by rw [flat_snoc (fL l0_0) l0_5 kk _ hy, ← List.append_assoc]; exact HBU.out⟩, BN, HB⟩
           · have hke : kk = l0_5.length := by omega
             subst hke
             replace HBU := aM (show Lib.IsBuilder 86 5 w.heap.size gb (Lib.byteCells (l0_0.flatMap rL ++ l0_1.flatMap (lL l0_0) ++ l0_2.flatMap (oL l0_0) ++ l0_3.flatMap (eL l0_0) ++ l0_4.flatMap (iL l0_0) ++ l0_5.flatMap (fL l0_0))) wr by have h := HBU.out; rwa [List.take_of_length_le (Nat.le_refl _)] at h)
             obtain ⟨wl5, hwl⟩ : ∃ x, x = wr := ⟨_, rfl⟩
             subst hwl
             obtain ⟨hn0, hn1, hn2, hn3, hn4, hn5⟩ := swc6 BN.out
             obtain ⟨TT, hTT⟩ : ∃ x, x = (l0_0.flatMap rL ++ l0_1.flatMap (lL l0_0) ++ l0_2.flatMap (oL l0_0) ++ l0_3.flatMap (eL l0_0) ++ l0_4.flatMap (iL l0_0) ++ l0_5.flatMap (fL l0_0)) := ⟨_, rfl⟩
             replace HBU := aM (show Lib.IsBuilder 86 5 w.heap.size gb (Lib.byteCells TT) _ by rw [hTT]; exact HBU.out)
             have HTT := aM hTT
             clear hTT
             go_wp2_with fail
             refine (Tryd.Builder_String_any w.heap.size gb _ _ HBU.out HB.out.size).mono ?_
             rintro e wz ⟨rfl, hbz⟩
             replace HB := aM (HB.out.trans hbz)
             clear hbz
             go_wp2
             go_ret
             exact ⟨by rw [show netT l0_0 l0_1 l0_2 l0_3 l0_4 l0_5 = TT from HTT.out.symm]; rfl, HB.out⟩
end Go.Proofs.YtgibacfgjmdjdaaDoor.PFnExactIsStable
