/- The rewriting of TopTracesAbsorbed returns, for every right formula that lies in memory, no formula or one that is true for the same lists of states. Conditions: the formula has at most 60 nodes, and its blocks lie from a given one on. -/
import Derived.Test.YtdfbclkafocnpaaDrew
import Derived.Test.YtdfbclkafocnpaaLaws
namespace Go.Proofs.Ytdfbclkafocnpaa
open Go.RowKit

theorem wSame_old (D : LT) (lo lod B : Nat) (w : World) (h : D.In w 38 29 lod B) (hB : B ≤ w.heap.size) (hlo : lo ≤ w.heap.size) : Calls Try.prog 20 #[.pointer (some ⟨D.blk, 0, none⟩)] w (RetTree 38 29 lo D.tr w) :=
  (same_any _ D w lod B (Nat.le_refl _) h hB).mono fun _ _ g => g.lower hlo

set_option linter.unusedSimpArgs false in
set_option linter.unusedVariables false in
set_option maxHeartbeats 8000000 in
set_option maxRecDepth 20000 in
theorem absorbed_b0 (facts how : Int) (hb db lo lod B : Nat) (L D : LT) (w : World) (hL : L.In w 38 29 lo w.heap.size) (hok : L.tr.ok facts) (hD : D.In w 38 29 lod B) (hs : B ≤ w.heap.size) (hDok : D.tr.ok facts) (hD60 : D.tr.size ≤ 60)
    (ch : w.cell? ⟨hb, 0, none⟩ = some (.int .i64 how)) (cx : w.cell? ⟨db, 0, none⟩ = some (.pointer (some ⟨D.blk, 0, none⟩))) (hp : ∀ w : World, Calls Try.prog 22 #[.int .i64 how, .int .i64 3] w fun e w' => e = .returned (.int .i64 0) ∧ w = w') :
    Calls Try.prog 27 #[.pointer (some ⟨L.blk, 0, none⟩), .pointer (some ⟨hb, 0, none⟩), .pointer (some ⟨db, 0, none⟩)] w (ByPost facts (fun _ => true) L lo w) := by
  have HOK := Lib.hid hok
  have HDK := Lib.hid hDok
  clear hok hDok
  go_enter Try.func27, Try.ntmps27
  go_wp2_with (go_at_call 22; refine (hp _).mono ?_; rintro e w' ⟨rfl, rfl⟩)
  have cx : w.drew.cell? ⟨db, 0, none⟩ = some (.pointer (some ⟨D.blk, 0, none⟩)) := cx
  have hL : L.In w.drew 38 29 lo w.drew.heap.size := hL.drew
  have hD : D.In w.drew 38 29 lod B := hD.drew
  have hs : B ≤ w.drew.heap.size := hs
  go_region_held3 (fun w' => w'.cell? ⟨db, 0, none⟩ = some (.pointer (some ⟨D.blk, 0, none⟩))) (first | exact cx_4 | exact keep_new cx_4 | exact cx_3 | exact keep_new cx_3 | exact cx_2 | exact keep_new cx_2 | exact cx_1 | exact keep_new cx_1 | exact cx | exact keep_drew1 cx) (first | (have _q := hb3; go_at_call 19; refine (wOf2_ret 4 X1 X3 lo w3 ((hX1.up2 hb2).up2 hb3) hX3).mono ?_; rintro e w4 ⟨X4, rfl, ht4, hX4, hb4⟩; have cx_4 := cell_later hb4 cx_3; have hD_4 := hD_3.below hb4 hs_3; have hs_4 := Nat.le_trans hs_3 hb4.size; have hB4 := hB3.trans (hb4.mono hB3.size)) | (have _q := hb2; go_at_call 19; refine (wOf2_ret 5 L X2 lo w2 ((hL.up2 hb1).up2 hb2) hX2).mono ?_; rintro e w3 ⟨X3, rfl, ht3, hX3, hb3⟩; have cx_3 := cell_later hb3 cx_2; have hD_3 := hD_2.below hb3 hs_2; have hs_3 := Nat.le_trans hs_2 hb3.size; have hB3 := hB2.trans (hb3.mono hB2.size)) | (have _q := hb1; go_at_call_of 20 (D.blk); refine (wSame_old D lo lod B w1 hD_1 hs_1 (hL.up2 hb1).le).mono ?_; rintro e w2 ⟨X2, rfl, ht2, hX2, hb2⟩; have cx_2 := cell_later hb2 cx_1; have hD_2 := hD_1.below hb2 hs_1; have hs_2 := Nat.le_trans hs_1 hb2.size; have hB2 := hB1.trans (hb2.mono hB1.size)) | (go_at_call_of 20 (L.blk); refine (wSame_ret L lo w.drew hL).mono ?_; rintro e w1 ⟨X1, rfl, ht1, hX1, hb1⟩; have cx_1 := cell_later hb1 cx; have hD_1 := hD.below hb1 hs; have hs_1 := Nat.le_trans hs hb1.size; have hB1 := hb1))
  all_goals
    go_wp2_with fail
    go_ret
    exact by_yes rfl hL.le (Below.refl lo w).drew hB4 hX4 (by simp only [ht4, ht3, ht2, ht1]) (absorbed_0 _ _) ⟨.inl rfl, HOK.out, .inr (.inl rfl), HOK.out, HDK.out⟩ (by simp only [Tr.size]; omega)

set_option linter.unusedSimpArgs false in
set_option linter.unusedVariables false in
set_option maxHeartbeats 8000000 in
set_option maxRecDepth 20000 in
theorem absorbed_b1 (facts how : Int) (hb db lo lod B : Nat) (L D : LT) (w : World) (hL : L.In w 38 29 lo w.heap.size) (hok : L.tr.ok facts) (hD : D.In w 38 29 lod B) (hs : B ≤ w.heap.size) (hDok : D.tr.ok facts) (hD60 : D.tr.size ≤ 60)
    (ch : w.cell? ⟨hb, 0, none⟩ = some (.int .i64 how)) (cx : w.cell? ⟨db, 0, none⟩ = some (.pointer (some ⟨D.blk, 0, none⟩))) (hp : ∀ w : World, Calls Try.prog 22 #[.int .i64 how, .int .i64 3] w fun e w' => e = .returned (.int .i64 1) ∧ w = w') :
    Calls Try.prog 27 #[.pointer (some ⟨L.blk, 0, none⟩), .pointer (some ⟨hb, 0, none⟩), .pointer (some ⟨db, 0, none⟩)] w (ByPost facts (fun _ => true) L lo w) := by
  have HOK := Lib.hid hok
  have HDK := Lib.hid hDok
  clear hok hDok
  go_enter Try.func27, Try.ntmps27
  go_wp2_with (first | (go_at_call 22; refine (hp _).mono ?_; rintro e w' ⟨rfl, rfl⟩) | (have _q := hb3; go_at_call 19; refine (wOf2_ret 5 X2 X3 lo w3 (hX2.up2 hb3) hX3).mono ?_; rintro e w4 ⟨X4, rfl, ht4, hX4, hb4⟩; have cx_4 := cell_later hb4 cx_3; have hD_4 := hD_3.below hb4 hs_3; have hs_4 := Nat.le_trans hs_3 hb4.size; have hB4 := hB3.trans (hb4.mono hB3.size)) | (have _q := hb2; go_at_call_of 20 (L.blk); refine (wSame_ret L lo w2 ((hL.up2 hb1).up2 hb2)).mono ?_; rintro e w3 ⟨X3, rfl, ht3, hX3, hb3⟩; have cx_3 := cell_later hb3 cx_2; have hD_3 := hD_2.below hb3 hs_2; have hs_3 := Nat.le_trans hs_2 hb3.size; have hB3 := hB2.trans (hb3.mono hB2.size)) | (have _q := hb1; go_at_call 19; refine (wOf2_ret 4 X1 L lo w1 hX1 (hL.up2 hb1)).mono ?_; rintro e w2 ⟨X2, rfl, ht2, hX2, hb2⟩; have cx_2 := cell_later hb2 cx_1; have hD_2 := hD_1.below hb2 hs_1; have hs_2 := Nat.le_trans hs_1 hb2.size; have hB2 := hB1.trans (hb2.mono hB1.size)) | (go_at_call_of 20 (D.blk); refine (wSame_old D lo lod B w hD hs hL.le).mono ?_; rintro e w1 ⟨X1, rfl, ht1, hX1, hb1⟩; have cx_1 := cell_later hb1 cx; have hD_1 := hD.below hb1 hs; have hs_1 := Nat.le_trans hs hb1.size; have hB1 := hb1))
  all_goals
    go_ret
    exact by_yes rfl hL.le (Below.refl lo w) hB4 hX4 (by simp only [ht4, ht3, ht2, ht1]) (absorbed_1 _ _) ⟨.inr (.inl rfl), ⟨.inl rfl, HDK.out, HOK.out⟩, HOK.out⟩ (by simp only [Tr.size]; omega)

set_option linter.unusedSimpArgs false in
set_option linter.unusedVariables false in
set_option maxHeartbeats 8000000 in
set_option maxRecDepth 20000 in
theorem absorbed_b2 (facts how : Int) (hb db lo lod B : Nat) (L D : LT) (w : World) (hL : L.In w 38 29 lo w.heap.size) (hok : L.tr.ok facts) (hD : D.In w 38 29 lod B) (hs : B ≤ w.heap.size) (hDok : D.tr.ok facts) (hD60 : D.tr.size ≤ 60)
    (ch : w.cell? ⟨hb, 0, none⟩ = some (.int .i64 how)) (cx : w.cell? ⟨db, 0, none⟩ = some (.pointer (some ⟨D.blk, 0, none⟩))) (hp : ∀ w : World, Calls Try.prog 22 #[.int .i64 how, .int .i64 3] w fun e w' => e = .returned (.int .i64 2) ∧ w = w') :
    Calls Try.prog 27 #[.pointer (some ⟨L.blk, 0, none⟩), .pointer (some ⟨hb, 0, none⟩), .pointer (some ⟨db, 0, none⟩)] w (ByPost facts (fun _ => true) L lo w) := by
  have HOK := Lib.hid hok
  have HDK := Lib.hid hDok
  clear hok hDok
  go_enter Try.func27, Try.ntmps27
  go_wp2_with (go_at_call 22; refine (hp _).mono ?_; rintro e w' ⟨rfl, rfl⟩)
  have cx : w.drew.cell? ⟨db, 0, none⟩ = some (.pointer (some ⟨D.blk, 0, none⟩)) := cx
  have hL : L.In w.drew 38 29 lo w.drew.heap.size := hL.drew
  have hD : D.In w.drew 38 29 lod B := hD.drew
  have hs : B ≤ w.drew.heap.size := hs
  go_region_held3 (fun w' => w'.cell? ⟨db, 0, none⟩ = some (.pointer (some ⟨D.blk, 0, none⟩))) (first | exact cx_5 | exact keep_new cx_5 | exact cx_4 | exact keep_new cx_4 | exact cx_3 | exact keep_new cx_3 | exact cx_2 | exact keep_new cx_2 | exact cx_1 | exact keep_new cx_1 | exact cx | exact keep_drew1 cx) (first | (have _q := hb4; go_at_call 19; refine (wOf2_ret 4 X4 L lo w4 hX4 ((((hL.up2 hb1).up2 hb2).up2 hb3).up2 hb4)).mono ?_; rintro e w5 ⟨X5, rfl, ht5, hX5, hb5⟩; have cx_5 := cell_later hb5 cx_4; have hD_5 := hD_4.below hb5 hs_4; have hs_5 := Nat.le_trans hs_4 hb5.size; have hB5 := hB4.trans (hb5.mono hB4.size)) | (have _q := hb3; go_at_call 19; refine (wOf2_ret 5 X1 X3 lo w3 ((hX1.up2 hb2).up2 hb3) hX3).mono ?_; rintro e w4 ⟨X4, rfl, ht4, hX4, hb4⟩; have cx_4 := cell_later hb4 cx_3; have hD_4 := hD_3.below hb4 hs_3; have hs_4 := Nat.le_trans hs_3 hb4.size; have hB4 := hB3.trans (hb4.mono hB3.size)) | (have _q := hb2; go_at_call 18; refine (wNot_ret X2 lo _ w2 hX2 (Nat.le_refl _)).mono ?_; rintro e w3 ⟨X3, rfl, ht3, hX3, hb3⟩; have cx_3 := cell_later hb3 cx_2; have hD_3 := hD_2.below hb3 hs_2; have hs_3 := Nat.le_trans hs_2 hb3.size; have hB3 := hB2.trans (hb3.mono hB2.size)) | (have _q := hb1; go_at_call_of 20 (D.blk); refine (wSame_old D lo lod B w1 hD_1 hs_1 (hL.up2 hb1).le).mono ?_; rintro e w2 ⟨X2, rfl, ht2, hX2, hb2⟩; have cx_2 := cell_later hb2 cx_1; have hD_2 := hD_1.below hb2 hs_1; have hs_2 := Nat.le_trans hs_1 hb2.size; have hB2 := hB1.trans (hb2.mono hB1.size)) | (go_at_call_of 20 (D.blk); refine (wSame_old D lo lod B w.drew hD hs hL.le).mono ?_; rintro e w1 ⟨X1, rfl, ht1, hX1, hb1⟩; have cx_1 := cell_later hb1 cx; have hD_1 := hD.below hb1 hs; have hs_1 := Nat.le_trans hs hb1.size; have hB1 := hb1))
  all_goals
    go_wp2_with fail
    go_ret
    exact by_yes rfl hL.le (Below.refl lo w).drew hB5 hX5 (by simp only [ht5, ht4, ht3, ht2, ht1]) (absorbed_2 _ _) ⟨.inl rfl, ⟨.inr (.inl rfl), HDK.out, .inl rfl, HDK.out⟩, HOK.out⟩ (by simp only [Tr.size]; omega)

theorem absorbed_by (facts how : Int) (hx dx lod B : Nat) (D : LT) (w0 : World) (hbox : Blk w0 hx 3 #[.int .i64 how]) (hxB : hx < B) (dbox : Blk w0 dx 29 #[.pointer (some ⟨D.blk, 0, none⟩)]) (dxB : dx < B) (hD : D.In w0 38 29 lod B) (hDok : D.tr.ok facts) (hD60 : D.tr.size ≤ 60) :
    ByOk facts (fun _ => true) 27 #[.pointer (some ⟨hx, 0, none⟩), .pointer (some ⟨dx, 0, none⟩)] B w0 := by
  refine ⟨enters_of Try.func27 (by kernel_rfl) rfl, fun L w lo hb0 hBlo hL hok h60 => ?_⟩
  have ch : w.cell? ⟨hx, 0, none⟩ = some (.int .i64 how) := (hbox.below hb0 hxB).cell 0
  have cx : w.cell? ⟨dx, 0, none⟩ = some (.pointer (some ⟨D.blk, 0, none⟩)) := (dbox.below hb0 dxB).cell 0
  have hDw := hD.below hb0 (Nat.le_refl _)
  have hs : B ≤ w.heap.size := Nat.le_trans hBlo hL.le
  obtain ⟨i, hi, hp⟩ := pick_det how 3 (by decide) (by decide)
  match i, hi with
  | 0, _ => exact absorbed_b0 facts how hx dx lo lod B L D w hL hok hDw hs hDok hD60 ch cx hp
  | 1, _ => exact absorbed_b1 facts how hx dx lo lod B L D w hL hok hDw hs hDok hD60 ch cx hp
  | 2, _ => exact absorbed_b2 facts how hx dx lo lod B L D w hL hok hDw hs hDok hD60 ch cx hp
end Go.Proofs.Ytdfbclkafocnpaa
