/- The rewriting of TopTimesUnrolled returns, for every right formula that lies in memory, no formula or one that is true for the same lists of states. Conditions: the formula has at most 60 nodes, and its blocks lie from a given one on. -/
import Derived.Test.YtdfbclkafocnpaaShape
import Derived.Test.YtdfbclkafocnpaaLaws
namespace Go.Proofs.Ytdfbclkafocnpaa
open Go.RowKit

def unrolledB (T : Tr) : Bool := T.kind == 9 || T.kind == 8 || T.kind == 7


set_option linter.unusedSimpArgs false in
set_option linter.unusedVariables false in
set_option maxHeartbeats 8000000 in
theorem unrolled_by (facts : Int) (B : Nat) (w0 : World) : ByOk facts unrolledB 32 #[] B w0 := by
  refine ⟨enters_of Try.func32 (by kernel_rfl) rfl, fun L w lo hb0 hBlo hL hok h60 => ?_⟩
  show Calls Try.prog 32 #[.pointer (some ⟨L.blk, 0, none⟩)] w (ByPost facts unrolledB L lo w)
  clear hb0 hBlo h60
  have c0 := LT.open0 hL
  have h0 : Below lo w w := Below.refl _ _
  rcases LT.cases_ok hok with ⟨b, f, v, rfl⟩ | ⟨b, f, v, rfl⟩ | ⟨b, f, v, a, rfl⟩ | ⟨b, f, v, a, c, rfl⟩ | ⟨b, f, v, a, c, rfl⟩ | ⟨b, f, v, a, rfl⟩ | ⟨b, f, v, a, c, rfl⟩ | ⟨b, f, v, a, rfl⟩ | ⟨b, f, v, a, rfl⟩ <;> simp only [LT.blk, LT.tr, Tr.kind] at c0 ⊢
  · go_enter Try.func32, Try.ntmps32
    go_wp2_with fail
    go_ret
    exact by_no rfl h0
  · go_enter Try.func32, Try.ntmps32
    go_wp2_with fail
    go_ret
    exact by_no rfl h0
  · go_enter Try.func32, Try.ntmps32
    go_wp2_with fail
    go_ret
    exact by_no rfl h0
  · go_enter Try.func32, Try.ntmps32
    go_wp2_with fail
    go_ret
    exact by_no rfl h0
  · go_enter Try.func32, Try.ntmps32
    go_wp2_with fail
    go_ret
    exact by_no rfl h0
  · go_enter Try.func32, Try.ntmps32
    go_wp2_with fail
    go_ret
    exact by_no rfl h0
  · obtain ⟨g, cap, rfl, -, c2, cg, ch, ha, hc⟩ := LT.open2 hL
    have hoka := hok.2.1
    have hokc := hok.2.2
    replace c0 : w.cell? ⟨b, 0, none⟩ = some (.int .i64 7) := c0
    replace c2 : w.cell? ⟨b, 2, none⟩ = some (.slice (some ⟨g, 0, none⟩) 2 cap) := c2
    replace cg : w.cell? ⟨g, 0, none⟩ = some (.pointer (some ⟨a.blk, 0, none⟩)) := cg
    replace ch : w.cell? ⟨g, 1, none⟩ = some (.pointer (some ⟨c.blk, 0, none⟩)) := ch
    replace ha : a.In w 38 29 lo w.heap.size := ha
    replace hc : c.In w 38 29 lo w.heap.size := hc
    replace hL : (LT.n2 b 7 f (.slice (some ⟨g, 0, none⟩) 2 cap) a c).In w 38 29 lo w.heap.size := hL
    have HOK := Lib.hid hok
    have OKa := Lib.hid hoka
    have OKc := Lib.hid hokc
    clear hok hoka hokc
    go_enter Try.func32, Try.ntmps32
    go_wp2_with fail
    have c0 : w.drew.cell? ⟨b, 0, none⟩ = some (.int .i64 7) := c0
    have c2 : w.drew.cell? ⟨b, 2, none⟩ = some (.slice (some ⟨g, 0, none⟩) 2 cap) := c2
    have cg : w.drew.cell? ⟨g, 0, none⟩ = some (.pointer (some ⟨a.blk, 0, none⟩)) := cg
    have ch : w.drew.cell? ⟨g, 1, none⟩ = some (.pointer (some ⟨c.blk, 0, none⟩)) := ch
    replace ha : a.In w.drew 38 29 lo w.drew.heap.size := ha.drew
    replace hc : c.In w.drew 38 29 lo w.drew.heap.size := hc.drew
    replace hL : (LT.n2 b 7 f (.slice (some ⟨g, 0, none⟩) 2 cap) a c).In w.drew 38 29 lo w.drew.heap.size := hL.drew
    go_region_held3 (fun w' => w'.cell? ⟨b, 0, none⟩ = some (.int .i64 7) ∧ w'.cell? ⟨b, 2, none⟩ = some (.slice (some ⟨g, 0, none⟩) 2 cap) ∧ w'.cell? ⟨g, 0, none⟩ = some (.pointer (some ⟨a.blk, 0, none⟩)) ∧ w'.cell? ⟨g, 1, none⟩ = some (.pointer (some ⟨c.blk, 0, none⟩))) (first | exact ⟨c0_5, c2_5, cg_5, ch_5⟩ | exact ⟨keep_new c0_5, keep_new c2_5, keep_new cg_5, keep_new ch_5⟩ | exact ⟨c0_4, c2_4, cg_4, ch_4⟩ | exact ⟨keep_new c0_4, keep_new c2_4, keep_new cg_4, keep_new ch_4⟩ | exact ⟨c0_3, c2_3, cg_3, ch_3⟩ | exact ⟨keep_new c0_3, keep_new c2_3, keep_new cg_3, keep_new ch_3⟩ | exact ⟨c0_2, c2_2, cg_2, ch_2⟩ | exact ⟨keep_new c0_2, keep_new c2_2, keep_new cg_2, keep_new ch_2⟩ | exact ⟨c0_1, c2_1, cg_1, ch_1⟩ | exact ⟨keep_new c0_1, keep_new c2_1, keep_new cg_1, keep_new ch_1⟩ | exact ⟨c0, c2, cg, ch⟩ | exact ⟨keep_drew1 c0, keep_drew1 c2, keep_drew1 cg, keep_drew1 ch⟩) (first | (have _q := hb4; go_at_call 19; refine (wOf2_ret 5 X1 X4 lo w4 (((hX1.up2 hb2).up2 hb3).up2 hb4) hX4).mono ?_; rintro e w5 ⟨X5, rfl, ht5, hX5, hb5⟩; have c0_5 := cell_later hb5 c0_4; have c2_5 := cell_later hb5 c2_4; have cg_5 := cell_later hb5 cg_4; have ch_5 := cell_later hb5 ch_4; have hB5 := hB4.trans (hb5.mono hB4.size)) | (have _q := hb3; go_at_call 19; refine (wOf2_ret 4 X2 X3 lo w3 (hX2.up2 hb3) hX3).mono ?_; rintro e w4 ⟨X4, rfl, ht4, hX4, hb4⟩; have c0_4 := cell_later hb4 c0_3; have c2_4 := cell_later hb4 c2_3; have cg_4 := cell_later hb4 cg_3; have ch_4 := cell_later hb4 ch_3; have hB4 := hB3.trans (hb4.mono hB3.size)) | (have _q := hb2; go_at_call 33; refine (next33_ret (LT.n2 b 7 f (.slice (some ⟨g, 0, none⟩) 2 cap) a c) lo w2 ((hL.up2 hb1).up2 hb2)).mono ?_; rintro e w3 ⟨X3, rfl, ht3, hX3, hb3⟩; have c0_3 := cell_later hb3 c0_2; have c2_3 := cell_later hb3 c2_2; have cg_3 := cell_later hb3 cg_2; have ch_3 := cell_later hb3 ch_2; have hB3 := hB2.trans (hb3.mono hB2.size)) | (have _q := hb1; go_at_call 20; refine (wSame_ret a lo w1 (ha.up2 hb1)).mono ?_; rintro e w2 ⟨X2, rfl, ht2, hX2, hb2⟩; have c0_2 := cell_later hb2 c0_1; have c2_2 := cell_later hb2 c2_1; have cg_2 := cell_later hb2 cg_1; have ch_2 := cell_later hb2 ch_1; have hB2 := hB1.trans (hb2.mono hB1.size)) | (go_at_call 20; refine (wSame_ret c lo w.drew hc).mono ?_; rintro e w1 ⟨X1, rfl, ht1, hX1, hb1⟩; have c0_1 := cell_later hb1 c0; have c2_1 := cell_later hb1 c2; have cg_1 := cell_later hb1 cg; have ch_1 := cell_later hb1 ch; have hB1 := hb1))
    all_goals
      go_wp2_with fail
      go_ret
      exact by_yes rfl hL.le (Below.refl lo w).drew hB5 hX5 (by simp only [ht5, ht4, ht3, ht2, ht1, LT.tr]) (unrolled_until _ _ _) ⟨.inr (.inl rfl), OKc.out, ⟨.inl rfl, OKa.out, ⟨.inr (.inl rfl), HOK.out⟩⟩⟩ (by simp only [LT.tr, Tr.size]; omega)
  · obtain ⟨g, cap, rfl, -, c2, cg, ha⟩ := LT.open1 hL
    have hoka := hok.2
    replace c0 : w.cell? ⟨b, 0, none⟩ = some (.int .i64 8) := c0
    replace c2 : w.cell? ⟨b, 2, none⟩ = some (.slice (some ⟨g, 0, none⟩) 1 cap) := c2
    replace cg : w.cell? ⟨g, 0, none⟩ = some (.pointer (some ⟨a.blk, 0, none⟩)) := cg
    replace ha : a.In w 38 29 lo w.heap.size := ha
    replace hL : (LT.n1 b 8 f (.slice (some ⟨g, 0, none⟩) 1 cap) a).In w 38 29 lo w.heap.size := hL
    have HOK := Lib.hid hok
    have OKa := Lib.hid hoka
    clear hok hoka
    go_enter Try.func32, Try.ntmps32
    go_wp2_with (first | (have _q := hb6; go_at_call 19; refine (wOf2_ret 4 X1 X6 lo w6 (((((hX1.up2 hb2).up2 hb3).up2 hb4).up2 hb5).up2 hb6) hX6).mono ?_; rintro e w7 ⟨X7, rfl, ht7, hX7, hb7⟩; have c0_7 := cell_later hb7 c0_6; have c2_7 := cell_later hb7 c2_6; have cg_7 := cell_later hb7 cg_6; have hB7 := hB6.trans (hb7.mono hB6.size)) | (have _q := hb5; go_at_call 19; refine (wOf2_ret 5 X4 X5 lo w5 (hX4.up2 hb5) hX5).mono ?_; rintro e w6 ⟨X6, rfl, ht6, hX6, hb6⟩; have c0_6 := cell_later hb6 c0_5; have c2_6 := cell_later hb6 c2_5; have cg_6 := cell_later hb6 cg_5; have hB6 := hB5.trans (hb6.mono hB5.size)) | (have _q := hb4; go_at_call 33; refine (next33_ret (LT.n1 b 8 f (.slice (some ⟨g, 0, none⟩) 1 cap) a) lo w4 ((((hL.up2 hb1).up2 hb2).up2 hb3).up2 hb4)).mono ?_; rintro e w5 ⟨X5, rfl, ht5, hX5, hb5⟩; have c0_5 := cell_later hb5 c0_4; have c2_5 := cell_later hb5 c2_4; have cg_5 := cell_later hb5 cg_4; have hB5 := hB4.trans (hb5.mono hB4.size)) | (have _q := hb3; go_at_call 18; refine (wNot_ret X3 lo _ w3 hX3 (Nat.le_refl _)).mono ?_; rintro e w4 ⟨X4, rfl, ht4, hX4, hb4⟩; have c0_4 := cell_later hb4 c0_3; have c2_4 := cell_later hb4 c2_3; have cg_4 := cell_later hb4 cg_3; have hB4 := hB3.trans (hb4.mono hB3.size)) | (have _q := hb2; go_at_call 33; refine (next33_ret X2 lo w2 hX2).mono ?_; rintro e w3 ⟨X3, rfl, ht3, hX3, hb3⟩; have c0_3 := cell_later hb3 c0_2; have c2_3 := cell_later hb3 c2_2; have cg_3 := cell_later hb3 cg_2; have hB3 := hB2.trans (hb3.mono hB2.size)) | (have _q := hb1; go_at_call 21; refine (wTrue_ret lo w1 (hL.up2 hb1).le).mono ?_; rintro e w2 ⟨X2, rfl, ht2, hX2, hb2⟩; have c0_2 := cell_later hb2 c0_1; have c2_2 := cell_later hb2 c2_1; have cg_2 := cell_later hb2 cg_1; have hB2 := hB1.trans (hb2.mono hB1.size)) | (go_at_call 20; refine (wSame_ret a lo w ha).mono ?_; rintro e w1 ⟨X1, rfl, ht1, hX1, hb1⟩; have c0_1 := cell_later hb1 c0; have c2_1 := cell_later hb1 c2; have cg_1 := cell_later hb1 cg; have hB1 := hb1))
    all_goals
      go_ret
      exact by_yes rfl hL.le h0 hB7 hX7 (by simp only [ht7, ht6, ht5, ht4, ht3, ht2, ht1, LT.tr]) (unrolled_always _ _) ⟨.inl rfl, OKa.out, ⟨.inr (.inl rfl), ⟨.inl rfl, ⟨.inr (.inl rfl), (.inl rfl)⟩⟩, ⟨.inr (.inl rfl), HOK.out⟩⟩⟩ (by simp only [LT.tr, Tr.size]; omega)
  · obtain ⟨g, cap, rfl, -, c2, cg, ha⟩ := LT.open1 hL
    have hoka := hok.2
    replace c0 : w.cell? ⟨b, 0, none⟩ = some (.int .i64 9) := c0
    replace c2 : w.cell? ⟨b, 2, none⟩ = some (.slice (some ⟨g, 0, none⟩) 1 cap) := c2
    replace cg : w.cell? ⟨g, 0, none⟩ = some (.pointer (some ⟨a.blk, 0, none⟩)) := cg
    replace ha : a.In w 38 29 lo w.heap.size := ha
    replace hL : (LT.n1 b 9 f (.slice (some ⟨g, 0, none⟩) 1 cap) a).In w 38 29 lo w.heap.size := hL
    have HOK := Lib.hid hok
    have OKa := Lib.hid hoka
    clear hok hoka
    go_enter Try.func32, Try.ntmps32
    go_wp2_with (first | (have _q := hb2; go_at_call 19; refine (wOf2_ret 5 X1 X2 lo w2 (hX1.up2 hb2) hX2).mono ?_; rintro e w3 ⟨X3, rfl, ht3, hX3, hb3⟩; have c0_3 := cell_later hb3 c0_2; have c2_3 := cell_later hb3 c2_2; have cg_3 := cell_later hb3 cg_2; have hB3 := hB2.trans (hb3.mono hB2.size)) | (have _q := hb1; go_at_call 33; refine (next33_ret (LT.n1 b 9 f (.slice (some ⟨g, 0, none⟩) 1 cap) a) lo w1 (hL.up2 hb1)).mono ?_; rintro e w2 ⟨X2, rfl, ht2, hX2, hb2⟩; have c0_2 := cell_later hb2 c0_1; have c2_2 := cell_later hb2 c2_1; have cg_2 := cell_later hb2 cg_1; have hB2 := hB1.trans (hb2.mono hB1.size)) | (go_at_call 20; refine (wSame_ret a lo w ha).mono ?_; rintro e w1 ⟨X1, rfl, ht1, hX1, hb1⟩; have c0_1 := cell_later hb1 c0; have c2_1 := cell_later hb1 c2; have cg_1 := cell_later hb1 cg; have hB1 := hb1))
    all_goals
      go_ret
      exact by_yes rfl hL.le h0 hB3 hX3 (by simp only [ht3, ht2, ht1, LT.tr]) (unrolled_some _ _) ⟨.inr (.inl rfl), OKa.out, ⟨.inr (.inl rfl), HOK.out⟩⟩ (by simp only [LT.tr, Tr.size]; omega)
end Go.Proofs.Ytdfbclkafocnpaa
