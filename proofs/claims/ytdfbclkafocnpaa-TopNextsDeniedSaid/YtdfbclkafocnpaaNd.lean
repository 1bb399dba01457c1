/- The rewriting of TopNextsDenied returns, for every right formula that lies in memory, no formula or one that is true for the same lists of states. Conditions: the formula has at most 60 nodes, and its blocks lie from a given one on. -/
import Derived.Test.YtdfbclkafocnpaaShape
import Derived.Test.YtdfbclkafocnpaaLaws
namespace Go.Proofs.Ytdfbclkafocnpaa
open Go.RowKit

def ndB : Tr → Bool
  | .n1 k _ a => k == 6 || (k == 3 && a.kind == 6)
  | _ => false


set_option linter.unusedSimpArgs false in
set_option linter.unusedVariables false in
set_option maxHeartbeats 8000000 in
theorem nd_by (facts : Int) (B : Nat) (w0 : World) : ByOk facts ndB 29 #[] B w0 := by
  refine ⟨enters_of Try.func29 (by kernel_rfl) rfl, fun L w lo hb0 hBlo hL hok h60 => ?_⟩
  show Calls Try.prog 29 #[.pointer (some ⟨L.blk, 0, none⟩)] w (ByPost facts ndB L lo w)
  clear hb0 hBlo h60
  have c0 := LT.open0 hL
  have h0 : Below lo w w := Below.refl _ _
  rcases LT.cases_ok hok with ⟨b, f, v, rfl⟩ | ⟨b, f, v, rfl⟩ | ⟨b, f, v, a, rfl⟩ | ⟨b, f, v, a, c, rfl⟩ | ⟨b, f, v, a, c, rfl⟩ | ⟨b, f, v, a, rfl⟩ | ⟨b, f, v, a, c, rfl⟩ | ⟨b, f, v, a, rfl⟩ | ⟨b, f, v, a, rfl⟩ <;> simp only [LT.blk, LT.tr, Tr.kind] at c0 ⊢
  · go_enter Try.func29, Try.ntmps29
    go_wp2_with fail
    go_ret
    exact by_no rfl h0
  · go_enter Try.func29, Try.ntmps29
    go_wp2_with fail
    go_ret
    exact by_no rfl h0
  · have hoka := hok.2
    by_cases hka : a.tr.kind = 6
    · obtain ⟨g, cap, rfl, -, c2, cg, ha⟩ := LT.open1 hL
      have hoka := hok.2
      obtain ⟨ba, fa, va, x, rfl⟩ := LT.is1 hoka hka (by decide)
      clear hka
      obtain ⟨ga, capa, rfl, ca0, ca2, cag, hx⟩ := LT.open1 ha
      have hokx := hoka.2
      replace c0 : w.cell? ⟨b, 0, none⟩ = some (.int .i64 3) := c0
      replace c2 : w.cell? ⟨b, 2, none⟩ = some (.slice (some ⟨g, 0, none⟩) 1 cap) := c2
      replace cg : w.cell? ⟨g, 0, none⟩ = some (.pointer (some ⟨ba, 0, none⟩)) := cg
      replace ca0 : w.cell? ⟨ba, 0, none⟩ = some (.int .i64 6) := ca0
      replace ca2 : w.cell? ⟨ba, 2, none⟩ = some (.slice (some ⟨ga, 0, none⟩) 1 capa) := ca2
      replace cag : w.cell? ⟨ga, 0, none⟩ = some (.pointer (some ⟨x.blk, 0, none⟩)) := cag
      replace hx : x.In w 38 29 lo w.heap.size := hx
      replace ha : (LT.n1 ba 6 fa (.slice (some ⟨ga, 0, none⟩) 1 capa) x).In w 38 29 lo w.heap.size := ha
      replace hL : (LT.n1 b 3 f (.slice (some ⟨g, 0, none⟩) 1 cap) (LT.n1 ba 6 fa (.slice (some ⟨ga, 0, none⟩) 1 capa) x)).In w 38 29 lo w.heap.size := hL
      have HOK := Lib.hid hok
      have OKx := Lib.hid hokx
      clear hok hokx hoka
      go_enter Try.func29, Try.ntmps29
      go_wp2_with fail
      have c0 : w.drew.cell? ⟨b, 0, none⟩ = some (.int .i64 3) := c0
      have c2 : w.drew.cell? ⟨b, 2, none⟩ = some (.slice (some ⟨g, 0, none⟩) 1 cap) := c2
      have cg : w.drew.cell? ⟨g, 0, none⟩ = some (.pointer (some ⟨ba, 0, none⟩)) := cg
      have ca0 : w.drew.cell? ⟨ba, 0, none⟩ = some (.int .i64 6) := ca0
      have ca2 : w.drew.cell? ⟨ba, 2, none⟩ = some (.slice (some ⟨ga, 0, none⟩) 1 capa) := ca2
      have cag : w.drew.cell? ⟨ga, 0, none⟩ = some (.pointer (some ⟨x.blk, 0, none⟩)) := cag
      replace hx : x.In w.drew 38 29 lo w.drew.heap.size := hx.drew
      replace ha : (LT.n1 ba 6 fa (.slice (some ⟨ga, 0, none⟩) 1 capa) x).In w.drew 38 29 lo w.drew.heap.size := ha.drew
      replace hL : (LT.n1 b 3 f (.slice (some ⟨g, 0, none⟩) 1 cap) (LT.n1 ba 6 fa (.slice (some ⟨ga, 0, none⟩) 1 capa) x)).In w.drew 38 29 lo w.drew.heap.size := hL.drew
      go_region_held3 (fun w' => w'.cell? ⟨b, 0, none⟩ = some (.int .i64 3) ∧ w'.cell? ⟨b, 2, none⟩ = some (.slice (some ⟨g, 0, none⟩) 1 cap) ∧ w'.cell? ⟨g, 0, none⟩ = some (.pointer (some ⟨ba, 0, none⟩)) ∧ w'.cell? ⟨ba, 0, none⟩ = some (.int .i64 6) ∧ w'.cell? ⟨ba, 2, none⟩ = some (.slice (some ⟨ga, 0, none⟩) 1 capa) ∧ w'.cell? ⟨ga, 0, none⟩ = some (.pointer (some ⟨x.blk, 0, none⟩))) (first | exact ⟨c0_6, c2_6, cg_6, ca0_6, ca2_6, cag_6⟩ | exact ⟨keep_new c0_6, keep_new c2_6, keep_new cg_6, keep_new ca0_6, keep_new ca2_6, keep_new cag_6⟩ | exact ⟨c0_5, c2_5, cg_5, ca0_5, ca2_5, cag_5⟩ | exact ⟨keep_new c0_5, keep_new c2_5, keep_new cg_5, keep_new ca0_5, keep_new ca2_5, keep_new cag_5⟩ | exact ⟨c0_4, c2_4, cg_4, ca0_4, ca2_4, cag_4⟩ | exact ⟨keep_new c0_4, keep_new c2_4, keep_new cg_4, keep_new ca0_4, keep_new ca2_4, keep_new cag_4⟩ | exact ⟨c0_3, c2_3, cg_3, ca0_3, ca2_3, cag_3⟩ | exact ⟨keep_new c0_3, keep_new c2_3, keep_new cg_3, keep_new ca0_3, keep_new ca2_3, keep_new cag_3⟩ | exact ⟨c0_2, c2_2, cg_2, ca0_2, ca2_2, cag_2⟩ | exact ⟨keep_new c0_2, keep_new c2_2, keep_new cg_2, keep_new ca0_2, keep_new ca2_2, keep_new cag_2⟩ | exact ⟨c0_1, c2_1, cg_1, ca0_1, ca2_1, cag_1⟩ | exact ⟨keep_new c0_1, keep_new c2_1, keep_new cg_1, keep_new ca0_1, keep_new ca2_1, keep_new cag_1⟩ | exact ⟨c0, c2, cg, ca0, ca2, cag⟩ | exact ⟨keep_drew1 c0, keep_drew1 c2, keep_drew1 cg, keep_drew1 ca0, keep_drew1 ca2, keep_drew1 cag⟩) (first | (have _q := hb5; go_at_call 19; refine (wOf2_ret 5 X3 X5 lo w5 ((hX3.up2 hb4).up2 hb5) hX5).mono ?_; rintro e w6 ⟨X6, rfl, ht6, hX6, hb6⟩; have c0_6 := cell_later hb6 c0_5; have c2_6 := cell_later hb6 c2_5; have cg_6 := cell_later hb6 cg_5; have ca0_6 := cell_later hb6 ca0_5; have ca2_6 := cell_later hb6 ca2_5; have cag_6 := cell_later hb6 cag_5; have hB6 := hB5.trans (hb6.mono hB5.size)) | (have _q := hb4; go_at_call 30; refine (next30_ret X4 lo w4 hX4).mono ?_; rintro e w5 ⟨X5, rfl, ht5, hX5, hb5⟩; have c0_5 := cell_later hb5 c0_4; have c2_5 := cell_later hb5 c2_4; have cg_5 := cell_later hb5 cg_4; have ca0_5 := cell_later hb5 ca0_4; have ca2_5 := cell_later hb5 ca2_4; have cag_5 := cell_later hb5 cag_4; have hB5 := hB4.trans (hb5.mono hB4.size)) | (have _q := hb3; go_at_call 18; refine (wNot_ret x lo _ w3 (((hx.up2 hb1).up2 hb2).up2 hb3) (Nat.le_refl _)).mono ?_; rintro e w4 ⟨X4, rfl, ht4, hX4, hb4⟩; have c0_4 := cell_later hb4 c0_3; have c2_4 := cell_later hb4 c2_3; have cg_4 := cell_later hb4 cg_3; have ca0_4 := cell_later hb4 ca0_3; have ca2_4 := cell_later hb4 ca2_3; have cag_4 := cell_later hb4 cag_3; have hB4 := hB3.trans (hb4.mono hB3.size)) | (have _q := hb2; go_at_call 18; refine (wNot_ret X2 lo _ w2 hX2 (Nat.le_refl _)).mono ?_; rintro e w3 ⟨X3, rfl, ht3, hX3, hb3⟩; have c0_3 := cell_later hb3 c0_2; have c2_3 := cell_later hb3 c2_2; have cg_3 := cell_later hb3 cg_2; have ca0_3 := cell_later hb3 ca0_2; have ca2_3 := cell_later hb3 ca2_2; have cag_3 := cell_later hb3 cag_2; have hB3 := hB2.trans (hb3.mono hB2.size)) | (have _q := hb1; go_at_call 30; refine (next30_ret X1 lo w1 hX1).mono ?_; rintro e w2 ⟨X2, rfl, ht2, hX2, hb2⟩; have c0_2 := cell_later hb2 c0_1; have c2_2 := cell_later hb2 c2_1; have cg_2 := cell_later hb2 cg_1; have ca0_2 := cell_later hb2 ca0_1; have ca2_2 := cell_later hb2 ca2_1; have cag_2 := cell_later hb2 cag_1; have hB2 := hB1.trans (hb2.mono hB1.size)) | (go_at_call 21; refine (wTrue_ret lo w.drew hL.le).mono ?_; rintro e w1 ⟨X1, rfl, ht1, hX1, hb1⟩; have c0_1 := cell_later hb1 c0; have c2_1 := cell_later hb1 c2; have cg_1 := cell_later hb1 cg; have ca0_1 := cell_later hb1 ca0; have ca2_1 := cell_later hb1 ca2; have cag_1 := cell_later hb1 cag; have hB1 := hb1))
      all_goals
        go_wp2_with fail
        go_ret
        exact by_yes rfl hL.le (Below.refl lo w).drew hB6 hX6 (by simp only [ht6, ht5, ht4, ht3, ht2, ht1, LT.tr]) (nexts_not _ _ _) ⟨.inr (.inl rfl), ⟨.inl rfl, ⟨.inr (.inl rfl), (.inl rfl)⟩⟩, ⟨.inr (.inl rfl), ⟨.inl rfl, OKx.out⟩⟩⟩ (by simp only [LT.tr, Tr.size]; omega)
    · obtain ⟨g, cap, rfl, -, c2, cg, ha⟩ := LT.open1 hL
      have ca := LT.open0 ha
      have hb6 : (a.tr.kind == 6) = false := by simpa using hka
      clear hoka hok ha hL
      go_enter Try.func29, Try.ntmps29
      go_wp2_with fail
      go_ret
      exact by_no (by simp [ndB, LT.tr, hka]) h0
  · go_enter Try.func29, Try.ntmps29
    go_wp2_with fail
    go_ret
    exact by_no rfl h0
  · go_enter Try.func29, Try.ntmps29
    go_wp2_with fail
    go_ret
    exact by_no rfl h0
  · obtain ⟨g, cap, rfl, -, c2, cg, ha⟩ := LT.open1 hL
    have hoka := hok.2
    replace c0 : w.cell? ⟨b, 0, none⟩ = some (.int .i64 6) := c0
    replace c2 : w.cell? ⟨b, 2, none⟩ = some (.slice (some ⟨g, 0, none⟩) 1 cap) := c2
    replace cg : w.cell? ⟨g, 0, none⟩ = some (.pointer (some ⟨a.blk, 0, none⟩)) := cg
    replace ha : a.In w 38 29 lo w.heap.size := ha
    replace hL : (LT.n1 b 6 f (.slice (some ⟨g, 0, none⟩) 1 cap) a).In w 38 29 lo w.heap.size := hL
    have HOK := Lib.hid hok
    have OKa := Lib.hid hoka
    clear hok hoka
    go_enter Try.func29, Try.ntmps29
    go_wp2_with fail
    have c0 : w.drew.cell? ⟨b, 0, none⟩ = some (.int .i64 6) := c0
    have c2 : w.drew.cell? ⟨b, 2, none⟩ = some (.slice (some ⟨g, 0, none⟩) 1 cap) := c2
    have cg : w.drew.cell? ⟨g, 0, none⟩ = some (.pointer (some ⟨a.blk, 0, none⟩)) := cg
    replace ha : a.In w.drew 38 29 lo w.drew.heap.size := ha.drew
    replace hL : (LT.n1 b 6 f (.slice (some ⟨g, 0, none⟩) 1 cap) a).In w.drew 38 29 lo w.drew.heap.size := hL.drew
    go_region_held3 (fun w' => w'.cell? ⟨b, 0, none⟩ = some (.int .i64 6) ∧ w'.cell? ⟨b, 2, none⟩ = some (.slice (some ⟨g, 0, none⟩) 1 cap) ∧ w'.cell? ⟨g, 0, none⟩ = some (.pointer (some ⟨a.blk, 0, none⟩))) (first | exact ⟨c0_6, c2_6, cg_6⟩ | exact ⟨keep_new c0_6, keep_new c2_6, keep_new cg_6⟩ | exact ⟨c0_5, c2_5, cg_5⟩ | exact ⟨keep_new c0_5, keep_new c2_5, keep_new cg_5⟩ | exact ⟨c0_4, c2_4, cg_4⟩ | exact ⟨keep_new c0_4, keep_new c2_4, keep_new cg_4⟩ | exact ⟨c0_3, c2_3, cg_3⟩ | exact ⟨keep_new c0_3, keep_new c2_3, keep_new cg_3⟩ | exact ⟨c0_2, c2_2, cg_2⟩ | exact ⟨keep_new c0_2, keep_new c2_2, keep_new cg_2⟩ | exact ⟨c0_1, c2_1, cg_1⟩ | exact ⟨keep_new c0_1, keep_new c2_1, keep_new cg_1⟩ | exact ⟨c0, c2, cg⟩ | exact ⟨keep_drew1 c0, keep_drew1 c2, keep_drew1 cg⟩) (first | (have _q := hb5; go_at_call 19; refine (wOf2_ret 4 X2 X5 lo w5 (((hX2.up2 hb3).up2 hb4).up2 hb5) hX5).mono ?_; rintro e w6 ⟨X6, rfl, ht6, hX6, hb6⟩; have c0_6 := cell_later hb6 c0_5; have c2_6 := cell_later hb6 c2_5; have cg_6 := cell_later hb6 cg_5; have hB6 := hB5.trans (hb6.mono hB5.size)) | (have _q := hb4; go_at_call 18; refine (wNot_ret X4 lo _ w4 hX4 (Nat.le_refl _)).mono ?_; rintro e w5 ⟨X5, rfl, ht5, hX5, hb5⟩; have c0_5 := cell_later hb5 c0_4; have c2_5 := cell_later hb5 c2_4; have cg_5 := cell_later hb5 cg_4; have hB5 := hB4.trans (hb5.mono hB4.size)) | (have _q := hb3; go_at_call 30; refine (next30_ret X3 lo w3 hX3).mono ?_; rintro e w4 ⟨X4, rfl, ht4, hX4, hb4⟩; have c0_4 := cell_later hb4 c0_3; have c2_4 := cell_later hb4 c2_3; have cg_4 := cell_later hb4 cg_3; have hB4 := hB3.trans (hb4.mono hB3.size)) | (have _q := hb2; go_at_call 18; refine (wNot_ret a lo _ w2 ((ha.up2 hb1).up2 hb2) (Nat.le_refl _)).mono ?_; rintro e w3 ⟨X3, rfl, ht3, hX3, hb3⟩; have c0_3 := cell_later hb3 c0_2; have c2_3 := cell_later hb3 c2_2; have cg_3 := cell_later hb3 cg_2; have hB3 := hB2.trans (hb3.mono hB2.size)) | (have _q := hb1; go_at_call 30; refine (next30_ret X1 lo w1 hX1).mono ?_; rintro e w2 ⟨X2, rfl, ht2, hX2, hb2⟩; have c0_2 := cell_later hb2 c0_1; have c2_2 := cell_later hb2 c2_1; have cg_2 := cell_later hb2 cg_1; have hB2 := hB1.trans (hb2.mono hB1.size)) | (go_at_call 21; refine (wTrue_ret lo w.drew hL.le).mono ?_; rintro e w1 ⟨X1, rfl, ht1, hX1, hb1⟩; have c0_1 := cell_later hb1 c0; have c2_1 := cell_later hb1 c2; have cg_1 := cell_later hb1 cg; have hB1 := hb1))
    all_goals
      go_wp2_with fail
      go_ret
      exact by_yes rfl hL.le (Below.refl lo w).drew hB6 hX6 (by simp only [ht6, ht5, ht4, ht3, ht2, ht1, LT.tr]) (nexts_next _ _) ⟨.inl rfl, ⟨.inr (.inl rfl), (.inl rfl)⟩, ⟨.inl rfl, ⟨.inr (.inl rfl), ⟨.inl rfl, OKa.out⟩⟩⟩⟩ (by simp only [LT.tr, Tr.size]; omega)
  · go_enter Try.func29, Try.ntmps29
    go_wp2_with fail
    go_ret
    exact by_no rfl h0
  · go_enter Try.func29, Try.ntmps29
    go_wp2_with fail
    go_ret
    exact by_no rfl h0
  · go_enter Try.func29, Try.ntmps29
    go_wp2_with fail
    go_ret
    exact by_no rfl h0
end Go.Proofs.Ytdfbclkafocnpaa
