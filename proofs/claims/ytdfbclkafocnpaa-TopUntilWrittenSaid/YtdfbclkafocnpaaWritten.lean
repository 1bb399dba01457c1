/- The rewriting of TopUntilWritten returns, for every right formula that lies in memory, no formula or one that is true for the same lists of states. Conditions: the formula has at most 60 nodes, and its blocks lie from a given one on. -/
import Derived.Test.YtdfbclkafocnpaaClo
import Derived.Test.YtdfbclkafocnpaaLaws
namespace Go.Proofs.Ytdfbclkafocnpaa
open Go.RowKit

def writtenB (T : Tr) : Bool := T.kind == 9 || T.kind == 8 || T.kind == 7

set_option linter.unusedSimpArgs false in
set_option maxHeartbeats 8000000 in
theorem written_by (facts : Int) (B : Nat) (w0 : World) : ByOk facts writtenB 35 #[] B w0 := by
  refine ⟨enters_of Try.func35 (by kernel_rfl) rfl, fun L w lo hb0 hBlo hL hok h60 => ?_⟩
  show Calls Try.prog 35 #[.pointer (some ⟨L.blk, 0, none⟩)] w (ByPost facts writtenB L lo w)
  clear hb0 hBlo h60
  have c0 := LT.open0 hL
  have h0 : Below lo w w := Below.refl _ _
  have h1 : Below lo w w.drew := (Below.refl _ _).drew
  rcases LT.cases_ok hok with ⟨b, f, v, rfl⟩ | ⟨b, f, v, rfl⟩ | ⟨b, f, v, a, rfl⟩ | ⟨b, f, v, a, c, rfl⟩ | ⟨b, f, v, a, c, rfl⟩ | ⟨b, f, v, a, rfl⟩ | ⟨b, f, v, a, c, rfl⟩ | ⟨b, f, v, a, rfl⟩ | ⟨b, f, v, a, rfl⟩ <;> simp only [LT.blk, LT.tr, Tr.kind] at c0 ⊢
  · go_enter Try.func35, Try.ntmps35
    go_wp2_with fail
    go_ret
    exact by_no rfl h0
  · go_enter Try.func35, Try.ntmps35
    go_wp2_with fail
    go_ret
    exact by_no rfl h0
  · go_enter Try.func35, Try.ntmps35
    go_wp2_with fail
    go_ret
    exact by_no rfl h0
  · go_enter Try.func35, Try.ntmps35
    go_wp2_with fail
    go_ret
    exact by_no rfl h0
  · go_enter Try.func35, Try.ntmps35
    go_wp2_with fail
    go_ret
    exact by_no rfl h0
  · go_enter Try.func35, Try.ntmps35
    go_wp2_with fail
    go_ret
    exact by_no rfl h0
  · obtain ⟨g, cap, rfl, -, c2, cg, ch, ha, hc⟩ := LT.open2 hL
    have HOK := Lib.hid hok
    clear hok
    go_enter Try.func35, Try.ntmps35
    go_wp2_with (first | (go_at_call 20; refine (wSame_ret c lo w hc).mono ?_; rintro e w1 ⟨X1, rfl, ht1, hX1, hb1⟩; have c2_1 := cell_later hb1 c2; have cg_1 := cell_later hb1 cg; have ch_1 := cell_later hb1 ch; have hB1 := hb1) | (go_at_call 19; refine (wOf1_ret 9 X1 lo w1 hX1).mono ?_; rintro e w2 ⟨X2, rfl, ht2, hX2, hb2⟩; have c2_2 := cell_later hb2 c2_1; have cg_2 := cell_later hb2 cg_1; have ch_2 := cell_later hb2 ch_1; have hB2 := hB1.trans (hb2.mono hB1.size)) | (go_at_call 19; refine (wOf2_ret 4 X2 (LT.n2 b 7 f (.slice (some ⟨g, 0, none⟩) 2 cap) a c) lo w2 hX2 ((hL.up2 hb1).up2 hb2)).mono ?_; rintro e w3 ⟨X3, rfl, ht3, hX3, hb3⟩; have c2_3 := cell_later hb3 c2_2; have cg_3 := cell_later hb3 cg_2; have ch_3 := cell_later hb3 ch_2; have hB3 := hB2.trans (hb3.mono hB2.size)))
    all_goals
      go_ret
      exact by_yes rfl hL.le h0 hB3 hX3 (by simp only [ht3, ht2, ht1, LT.tr]) (written_until _ _ _) ⟨.inl rfl, ⟨.inr (.inr (.inr rfl)), HOK.out.2.2⟩, HOK.out⟩ (by simp only [LT.tr, Tr.size]; omega)
  · obtain ⟨g, cap, rfl, -, c2, cg, ha⟩ := LT.open1 hL
    have c2 : w.drew.cell? ⟨b, 2, none⟩ = some (.slice (some ⟨g, 0, none⟩) 1 cap) := c2
    have cg : w.drew.cell? ⟨g, 0, none⟩ = some (.pointer (some ⟨a.blk, 0, none⟩)) := cg
    have hL : (LT.n1 b 8 f (.slice (some ⟨g, 0, none⟩) 1 cap) a).In w.drew 38 29 lo w.drew.heap.size := hL.drew
    have ha : a.In w.drew 38 29 lo w.drew.heap.size := ha.drew
    have HOK := Lib.hid hok
    clear hok
    go_enter Try.func35, Try.ntmps35
    go_wp2_with fail
    go_region_held3 (fun w' => w'.cell? ⟨b, 2, none⟩ = some (.slice (some ⟨g, 0, none⟩) 1 cap) ∧ w'.cell? ⟨g, 0, none⟩ = some (.pointer (some ⟨a.blk, 0, none⟩))) (first | go_keep | exact ⟨c2_1, cg_1⟩ | exact ⟨c2_2, cg_2⟩ | exact ⟨c2_3, cg_3⟩ | exact ⟨c2_4, cg_4⟩) (first | (go_at_call 21; refine (wTrue_ret lo w.drew hL.le).mono ?_; rintro e w1 ⟨X1, rfl, ht1, hX1, hb1⟩; have c2_1 := cell_later hb1 c2; have cg_1 := cell_later hb1 cg; have hB1 := hb1) | (go_at_call 18; refine (wNot_ret a lo _ w1 (ha.up2 hb1) (Nat.le_refl _)).mono ?_; rintro e w2 ⟨X2, rfl, ht2, hX2, hb2⟩; have c2_2 := cell_later hb2 c2_1; have cg_2 := cell_later hb2 cg_1; have hB2 := hB1.trans (hb2.mono hB1.size)) | (go_at_call 19; refine (wOf2_ret 7 X1 X2 lo w2 (hX1.up2 hb2) hX2).mono ?_; rintro e w3 ⟨X3, rfl, ht3, hX3, hb3⟩; have c2_3 := cell_later hb3 c2_2; have cg_3 := cell_later hb3 cg_2; have hB3 := hB2.trans (hb3.mono hB2.size)) | (go_at_call 18; refine (wNot_ret X3 lo _ w3 hX3 (Nat.le_refl _)).mono ?_; rintro e w4 ⟨X4, rfl, ht4, hX4, hb4⟩; have c2_4 := cell_later hb4 c2_3; have cg_4 := cell_later hb4 cg_3; have hB4 := hB3.trans (hb4.mono hB3.size)))
    all_goals
      go_wp2_with fail
      go_ret
      exact by_yes rfl hL.le h1 hB4 hX4 (by simp only [ht4, ht3, ht2, ht1, LT.tr]) (written_always _ _) ⟨.inl rfl, .inr (.inr rfl), .inl rfl, .inl rfl, HOK.out.2⟩ (by simp only [LT.tr, Tr.size]; omega)
  · obtain ⟨g, cap, rfl, -, c2, cg, ha⟩ := LT.open1 hL
    have c2 : w.drew.cell? ⟨b, 2, none⟩ = some (.slice (some ⟨g, 0, none⟩) 1 cap) := c2
    have cg : w.drew.cell? ⟨g, 0, none⟩ = some (.pointer (some ⟨a.blk, 0, none⟩)) := cg
    have hL : (LT.n1 b 9 f (.slice (some ⟨g, 0, none⟩) 1 cap) a).In w.drew 38 29 lo w.drew.heap.size := hL.drew
    have ha : a.In w.drew 38 29 lo w.drew.heap.size := ha.drew
    have HOK := Lib.hid hok
    clear hok
    go_enter Try.func35, Try.ntmps35
    go_wp2_with fail
    go_region_held3 (fun w' => w'.cell? ⟨b, 2, none⟩ = some (.slice (some ⟨g, 0, none⟩) 1 cap) ∧ w'.cell? ⟨g, 0, none⟩ = some (.pointer (some ⟨a.blk, 0, none⟩))) (first | go_keep | exact ⟨c2_1, cg_1⟩ | exact ⟨c2_2, cg_2⟩) (first | (go_at_call 21; refine (wTrue_ret lo w.drew hL.le).mono ?_; rintro e w1 ⟨X1, rfl, ht1, hX1, hb1⟩; have c2_1 := cell_later hb1 c2; have cg_1 := cell_later hb1 cg; have hB1 := hb1) | (go_at_call 19; refine (wOf2_ret 7 X1 a lo w1 hX1 (ha.up2 hb1)).mono ?_; rintro e w2 ⟨X2, rfl, ht2, hX2, hb2⟩; have c2_2 := cell_later hb2 c2_1; have cg_2 := cell_later hb2 cg_1; have hB2 := hB1.trans (hb2.mono hB1.size)))
    all_goals
      go_wp2_with fail
      go_ret
      exact by_yes rfl hL.le h1 hB2 hX2 (by simp only [ht2, ht1, LT.tr]) (written_some _ _) ⟨.inr (.inr rfl), .inl rfl, HOK.out.2⟩ (by simp only [LT.tr, Tr.size]; omega)
end Go.Proofs.Ytdfbclkafocnpaa
