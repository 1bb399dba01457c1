/- The rewriting of TopTimesTwice returns, for every right formula that lies in memory, no formula or one that is true for the same lists of states. Conditions: the formula has at most 60 nodes, and its blocks lie from a given one on. -/
import Derived.Test.YtdfbclkafocnpaaShape
import Derived.Test.YtdfbclkafocnpaaLaws
namespace Go.Proofs.Ytdfbclkafocnpaa
open Go.RowKit

def twiceB (T : Tr) : Bool := T.kind == 9 || T.kind == 8 || T.kind == 7


set_option linter.unusedSimpArgs false in
set_option linter.unusedVariables false in
set_option maxHeartbeats 8000000 in
set_option maxRecDepth 20000 in
theorem twice_by (facts : Int) (flag : Bool) (hx B : Nat) (w0 : World) (hbox : Blk w0 hx 4 #[.bool flag]) (hB : hx < B) : ByOk facts twiceB 34 #[.pointer (some ⟨hx, 0, none⟩)] B w0 := by
  refine ⟨enters_of Try.func34 (by kernel_rfl) rfl, fun L w lo hb0 hBlo hL hok h60 => ?_⟩
  show Calls Try.prog 34 #[.pointer (some ⟨L.blk, 0, none⟩), .pointer (some ⟨hx, 0, none⟩)] w (ByPost facts twiceB L lo w)
  have cx : w.cell? ⟨hx, 0, none⟩ = some (.bool flag) := (hbox.below hb0 hB).cell 0
  clear hb0 hBlo h60 hbox hB
  have c0 := LT.open0 hL
  have h0 : Below lo w w := Below.refl _ _
  rcases LT.cases_ok hok with ⟨b, f, v, rfl⟩ | ⟨b, f, v, rfl⟩ | ⟨b, f, v, a, rfl⟩ | ⟨b, f, v, a, c, rfl⟩ | ⟨b, f, v, a, c, rfl⟩ | ⟨b, f, v, a, rfl⟩ | ⟨b, f, v, a, c, rfl⟩ | ⟨b, f, v, a, rfl⟩ | ⟨b, f, v, a, rfl⟩ <;> simp only [LT.blk, LT.tr, Tr.kind] at c0 ⊢
  · go_enter Try.func34, Try.ntmps34
    go_wp2_with fail
    go_ret
    exact by_no rfl h0
  · go_enter Try.func34, Try.ntmps34
    go_wp2_with fail
    go_ret
    exact by_no rfl h0
  · go_enter Try.func34, Try.ntmps34
    go_wp2_with fail
    go_ret
    exact by_no rfl h0
  · go_enter Try.func34, Try.ntmps34
    go_wp2_with fail
    go_ret
    exact by_no rfl h0
  · go_enter Try.func34, Try.ntmps34
    go_wp2_with fail
    go_ret
    exact by_no rfl h0
  · go_enter Try.func34, Try.ntmps34
    go_wp2_with fail
    go_ret
    exact by_no rfl h0
  · cases flag
    · obtain ⟨g, cap, rfl, -, c2, cg, ch, ha, hc⟩ := LT.open2 hL
      have hoka := hok.2.1
      have hokc := hok.2.2
      replace c0 : w.cell? ⟨b, 0, none⟩ = some (.int .i64 7) := c0
      replace c2 : w.cell? ⟨b, 2, none⟩ = some (.slice (some ⟨g, 0, none⟩) 2 cap) := c2
      replace cg : w.cell? ⟨g, 0, none⟩ = some (.pointer (some ⟨a.blk, 0, none⟩)) := cg
      replace ch : w.cell? ⟨g, 1, none⟩ = some (.pointer (some ⟨c.blk, 0, none⟩)) := ch
      replace cx : w.cell? ⟨hx, 0, none⟩ = some (.bool false) := cx
      replace ha : a.In w 38 29 lo w.heap.size := ha
      replace hc : c.In w 38 29 lo w.heap.size := hc
      replace hL : (LT.n2 b 7 f (.slice (some ⟨g, 0, none⟩) 2 cap) a c).In w 38 29 lo w.heap.size := hL
      have HOK := Lib.hid hok
      have OKa := Lib.hid hoka
      have OKc := Lib.hid hokc
      clear hok hoka hokc
      go_enter Try.func34, Try.ntmps34
      go_wp2_with (first | (have _q := hb1; go_at_call 19; refine (wOf2_ret 7 X1 (LT.n2 b 7 f (.slice (some ⟨g, 0, none⟩) 2 cap) a c) lo w1 hX1 (hL.up2 hb1)).mono ?_; rintro e w2 ⟨X2, rfl, ht2, hX2, hb2⟩; have c0_2 := cell_later hb2 c0_1; have c2_2 := cell_later hb2 c2_1; have cg_2 := cell_later hb2 cg_1; have ch_2 := cell_later hb2 ch_1; have cx_2 := cell_later hb2 cx_1; have hB2 := hB1.trans (hb2.mono hB1.size)) | (go_at_call 20; refine (wSame_ret a lo w ha).mono ?_; rintro e w1 ⟨X1, rfl, ht1, hX1, hb1⟩; have c0_1 := cell_later hb1 c0; have c2_1 := cell_later hb1 c2; have cg_1 := cell_later hb1 cg; have ch_1 := cell_later hb1 ch; have cx_1 := cell_later hb1 cx; have hB1 := hb1))
      all_goals
        go_ret
        exact by_yes rfl hL.le h0 hB2 hX2 (by simp only [ht2, ht1, LT.tr]) (twice_until _ _ _) ⟨.inr (.inr rfl), OKa.out, HOK.out⟩ (by simp only [LT.tr, Tr.size]; omega)
    · obtain ⟨g, cap, rfl, -, c2, cg, ch, ha, hc⟩ := LT.open2 hL
      have hoka := hok.2.1
      have hokc := hok.2.2
      replace c0 : w.cell? ⟨b, 0, none⟩ = some (.int .i64 7) := c0
      replace c2 : w.cell? ⟨b, 2, none⟩ = some (.slice (some ⟨g, 0, none⟩) 2 cap) := c2
      replace cg : w.cell? ⟨g, 0, none⟩ = some (.pointer (some ⟨a.blk, 0, none⟩)) := cg
      replace ch : w.cell? ⟨g, 1, none⟩ = some (.pointer (some ⟨c.blk, 0, none⟩)) := ch
      replace cx : w.cell? ⟨hx, 0, none⟩ = some (.bool true) := cx
      replace ha : a.In w 38 29 lo w.heap.size := ha
      replace hc : c.In w 38 29 lo w.heap.size := hc
      replace hL : (LT.n2 b 7 f (.slice (some ⟨g, 0, none⟩) 2 cap) a c).In w 38 29 lo w.heap.size := hL
      have HOK := Lib.hid hok
      have OKa := Lib.hid hoka
      have OKc := Lib.hid hokc
      clear hok hoka hokc
      go_enter Try.func34, Try.ntmps34
      go_wp2_with fail
      have c0 : w.drew.cell? ⟨b, 0, none⟩ = some (.int .i64 7) := c0
      have c2 : w.drew.cell? ⟨b, 2, none⟩ = some (.slice (some ⟨g, 0, none⟩) 2 cap) := c2
      have cg : w.drew.cell? ⟨g, 0, none⟩ = some (.pointer (some ⟨a.blk, 0, none⟩)) := cg
      have ch : w.drew.cell? ⟨g, 1, none⟩ = some (.pointer (some ⟨c.blk, 0, none⟩)) := ch
      have cx : w.drew.cell? ⟨hx, 0, none⟩ = some (.bool true) := cx
      replace ha : a.In w.drew 38 29 lo w.drew.heap.size := ha.drew
      replace hc : c.In w.drew 38 29 lo w.drew.heap.size := hc.drew
      replace hL : (LT.n2 b 7 f (.slice (some ⟨g, 0, none⟩) 2 cap) a c).In w.drew 38 29 lo w.drew.heap.size := hL.drew
      go_region_held3 (fun w' => w'.cell? ⟨b, 2, none⟩ = some (.slice (some ⟨g, 0, none⟩) 2 cap) ∧ w'.cell? ⟨g, 0, none⟩ = some (.pointer (some ⟨a.blk, 0, none⟩)) ∧ w'.cell? ⟨g, 1, none⟩ = some (.pointer (some ⟨c.blk, 0, none⟩))) (first | exact ⟨c2_3, cg_3, ch_3⟩ | exact ⟨keep_new c2_3, keep_new cg_3, keep_new ch_3⟩ | exact ⟨c2_2, cg_2, ch_2⟩ | exact ⟨keep_new c2_2, keep_new cg_2, keep_new ch_2⟩ | exact ⟨c2_1, cg_1, ch_1⟩ | exact ⟨keep_new c2_1, keep_new cg_1, keep_new ch_1⟩ | exact ⟨c2, cg, ch⟩ | exact ⟨keep_drew1 c2, keep_drew1 cg, keep_drew1 ch⟩) (first | (have _q := hb2; go_at_call 19; refine (wOf2_ret 4 a X2 lo w2 ((ha.up2 hb1).up2 hb2) hX2).mono ?_; rintro e w3 ⟨X3, rfl, ht3, hX3, hb3⟩; have c0_3 := cell_later hb3 c0_2; have c2_3 := cell_later hb3 c2_2; have cg_3 := cell_later hb3 cg_2; have ch_3 := cell_later hb3 ch_2; have cx_3 := cell_later hb3 cx_2; have hB3 := hB2.trans (hb3.mono hB2.size)) | (have _q := hb1; go_at_call 18; refine (wNot_ret X1 lo _ w1 hX1 (Nat.le_refl _)).mono ?_; rintro e w2 ⟨X2, rfl, ht2, hX2, hb2⟩; have c0_2 := cell_later hb2 c0_1; have c2_2 := cell_later hb2 c2_1; have cg_2 := cell_later hb2 cg_1; have ch_2 := cell_later hb2 ch_1; have cx_2 := cell_later hb2 cx_1; have hB2 := hB1.trans (hb2.mono hB1.size)) | (go_at_call 20; refine (wSame_ret c lo w.drew hc).mono ?_; rintro e w1 ⟨X1, rfl, ht1, hX1, hb1⟩; have c0_1 := cell_later hb1 c0; have c2_1 := cell_later hb1 c2; have cg_1 := cell_later hb1 cg; have ch_1 := cell_later hb1 ch; have cx_1 := cell_later hb1 cx; have hB1 := hb1))
      go_wp2_with (first | (have _q := hb3; go_at_call 19; refine (wOf2_ret 7 X3 c lo w3 hX3 (((hc.up2 hb1).up2 hb2).up2 hb3)).mono ?_; rintro e w4 ⟨X4, rfl, ht4, hX4, hb4⟩; have c0_4 := cell_later hb4 c0_3; have c2_4 := cell_later hb4 c2_3; have cg_4 := cell_later hb4 cg_3; have ch_4 := cell_later hb4 ch_3; have cx_4 := cell_later hb4 cx_3; have hB4 := hB3.trans (hb4.mono hB3.size)))
      all_goals
        go_ret
        exact by_yes rfl hL.le (Below.refl lo w).drew hB4 hX4 (by simp only [ht4, ht3, ht2, ht1, LT.tr]) (twice_beside _ _ _) ⟨.inr (.inr rfl), ⟨.inl rfl, OKa.out, ⟨.inl rfl, OKc.out⟩⟩, OKc.out⟩ (by simp only [LT.tr, Tr.size]; omega)
  · obtain ⟨g, cap, rfl, -, c2, cg, ha⟩ := LT.open1 hL
    have hoka := hok.2
    replace c0 : w.cell? ⟨b, 0, none⟩ = some (.int .i64 8) := c0
    replace c2 : w.cell? ⟨b, 2, none⟩ = some (.slice (some ⟨g, 0, none⟩) 1 cap) := c2
    replace cg : w.cell? ⟨g, 0, none⟩ = some (.pointer (some ⟨a.blk, 0, none⟩)) := cg
    replace ha : a.In w 38 29 lo w.heap.size := ha
    replace hL : (LT.n1 b 8 f (.slice (some ⟨g, 0, none⟩) 1 cap) a).In w 38 29 lo w.heap.size := hL
    have HOK := Lib.hid hok
    have OKa := Lib.hid hoka
    clear hok hoka
    go_enter Try.func34, Try.ntmps34
    go_wp2_with (first | (go_at_call 19; refine (wOf1_ret 8 (LT.n1 b 8 f (.slice (some ⟨g, 0, none⟩) 1 cap) a) lo w hL).mono ?_; rintro e w1 ⟨X1, rfl, ht1, hX1, hb1⟩; have c0_1 := cell_later hb1 c0; have c2_1 := cell_later hb1 c2; have cg_1 := cell_later hb1 cg; have hB1 := hb1))
    all_goals
      go_ret
      exact by_yes rfl hL.le h0 hB1 hX1 (by simp only [ht1, LT.tr]) (twice_always _ _) ⟨.inr (.inr (.inl rfl)), HOK.out⟩ (by simp only [LT.tr, Tr.size]; omega)
  · obtain ⟨g, cap, rfl, -, c2, cg, ha⟩ := LT.open1 hL
    have hoka := hok.2
    replace c0 : w.cell? ⟨b, 0, none⟩ = some (.int .i64 9) := c0
    replace c2 : w.cell? ⟨b, 2, none⟩ = some (.slice (some ⟨g, 0, none⟩) 1 cap) := c2
    replace cg : w.cell? ⟨g, 0, none⟩ = some (.pointer (some ⟨a.blk, 0, none⟩)) := cg
    replace ha : a.In w 38 29 lo w.heap.size := ha
    replace hL : (LT.n1 b 9 f (.slice (some ⟨g, 0, none⟩) 1 cap) a).In w 38 29 lo w.heap.size := hL
    have HOK := Lib.hid hok
    have OKa := Lib.hid hoka
    clear hok hoka
    go_enter Try.func34, Try.ntmps34
    go_wp2_with (first | (go_at_call 19; refine (wOf1_ret 9 (LT.n1 b 9 f (.slice (some ⟨g, 0, none⟩) 1 cap) a) lo w hL).mono ?_; rintro e w1 ⟨X1, rfl, ht1, hX1, hb1⟩; have c0_1 := cell_later hb1 c0; have c2_1 := cell_later hb1 c2; have cg_1 := cell_later hb1 cg; have hB1 := hb1))
    all_goals
      go_ret
      exact by_yes rfl hL.le h0 hB1 hX1 (by simp only [ht1, LT.tr]) (twice_some _ _) ⟨.inr (.inr (.inr rfl)), HOK.out⟩ (by simp only [LT.tr, Tr.size]; omega)
end Go.Proofs.Ytdfbclkafocnpaa
