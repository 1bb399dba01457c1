/- TopTracesKept: the rewriting. -/
import Derived.Test.YtdfbclkafocnpaaClo
import Derived.Test.YtdfbclkafocnpaaLaws
namespace Go.Proofs.Ytdfbclkafocnpaa
open Go.RowKit

set_option warningAsError false in
set_option maxHeartbeats 20000000 in
theorem kept_0 (facts how : Int) (hb lo : Nat) (L : LT) (w : World) (hL : L.In w 38 29 lo w.heap.size) (hok : L.tr.ok facts) (hc : w.cell? ⟨hb, 0, none⟩ = some (.int .i64 how))
    (hp : ∀ w : World, Calls Try.prog 22 #[.int .i64 how, .int .i64 5] w fun e w' => e = .returned (.int .i64 0) ∧ w = w') :
    Calls Try.prog 17 #[.pointer (some ⟨L.blk, 0, none⟩), .pointer (some ⟨hb, 0, none⟩)] w (ByPost facts (fun _ => true) L lo w) := by
  have hL0 := hL
  have h0 : Below lo w w.drew := (Below.refl _ _).drew
  replace hL : L.In w.drew 38 29 lo w.drew.heap.size := hL.drew
  have hs0 : w.drew.cell? ⟨hb, 0, none⟩ = some (.int .i64 how) := hc
  have HOK := Lib.hid hok
  clear hok
  go_enter Try.func17, Try.ntmps17
  go_wp2_with fail
  go_region_held3 (fun w' => w'.cell? ⟨hb, 0, none⟩ = some (.int .i64 how)) (first | go_keep | exact hs1 | exact hs2 | exact hs3 | exact hs4 | exact hs5 | exact hs6 | exact hs7 | exact hs8 | exact hs9 | exact hs10 | exact hs11) (first | (go_at_call 18; refine (wNot_ret L lo _ w.drew hL (Nat.le_refl _)).mono ?_; rintro e w1 ⟨X1, rfl, ht1, hX1, hb1⟩; have hs1 := (cell_later hb1 hs0); have hB1 := hb1) | (go_at_call 18; refine (wNot_ret X1 lo _ w1 hX1 (Nat.le_refl _)).mono ?_; rintro e w2 ⟨X2, rfl, ht2, hX2, hb2⟩; have hs2 := (cell_later hb2 hs1); have hB2 := hB1.trans (hb2.mono hB1.size)) | (go_at_call 20; refine (wSame_ret L lo w2 ((hL.up2 hb1).up2 hb2)).mono ?_; rintro e w3 ⟨X3, rfl, ht3, hX3, hb3⟩; have hs3 := (cell_later hb3 hs2); have hB3 := hB2.trans (hb3.mono hB2.size)) | (go_at_call 19; refine (wOf2_ret 4 L X3 lo w3 (((hL.up2 hb1).up2 hb2).up2 hb3) hX3).mono ?_; rintro e w4 ⟨X4, rfl, ht4, hX4, hb4⟩; have hs4 := (cell_later hb4 hs3); have hB4 := hB3.trans (hb4.mono hB3.size)) | (go_at_call 20; refine (wSame_ret L lo w4 ((((hL.up2 hb1).up2 hb2).up2 hb3).up2 hb4)).mono ?_; rintro e w5 ⟨X5, rfl, ht5, hX5, hb5⟩; have hs5 := (cell_later hb5 hs4); have hB5 := hB4.trans (hb5.mono hB4.size)) | (go_at_call 19; refine (wOf2_ret 5 X5 L lo w5 hX5 (((((hL.up2 hb1).up2 hb2).up2 hb3).up2 hb4).up2 hb5)).mono ?_; rintro e w6 ⟨X6, rfl, ht6, hX6, hb6⟩; have hs6 := (cell_later hb6 hs5); have hB6 := hB5.trans (hb6.mono hB5.size)) | (go_at_call 21; refine (wTrue_ret lo w6 ((((((hL.up2 hb1).up2 hb2).up2 hb3).up2 hb4).up2 hb5).up2 hb6).le).mono ?_; rintro e w7 ⟨X7, rfl, ht7, hX7, hb7⟩; have hs7 := (cell_later hb7 hs6); have hB7 := hB6.trans (hb7.mono hB6.size)) | (go_at_call 19; refine (wOf2_ret 4 L X7 lo w7 (((((((hL.up2 hb1).up2 hb2).up2 hb3).up2 hb4).up2 hb5).up2 hb6).up2 hb7) hX7).mono ?_; rintro e w8 ⟨X8, rfl, ht8, hX8, hb8⟩; have hs8 := (cell_later hb8 hs7); have hB8 := hB7.trans (hb8.mono hB7.size)) | (go_at_call 21; refine (wTrue_ret lo w8 ((((((((hL.up2 hb1).up2 hb2).up2 hb3).up2 hb4).up2 hb5).up2 hb6).up2 hb7).up2 hb8).le).mono ?_; rintro e w9 ⟨X9, rfl, ht9, hX9, hb9⟩; have hs9 := (cell_later hb9 hs8); have hB9 := hB8.trans (hb9.mono hB8.size)) | (go_at_call 18; refine (wNot_ret X9 lo _ w9 hX9 (Nat.le_refl _)).mono ?_; rintro e w10 ⟨X10, rfl, ht10, hX10, hb10⟩; have hs10 := (cell_later hb10 hs9); have hB10 := hB9.trans (hb10.mono hB9.size)) | (go_at_call 19; refine (wOf2_ret 5 X10 L lo w10 hX10 ((((((((((hL.up2 hb1).up2 hb2).up2 hb3).up2 hb4).up2 hb5).up2 hb6).up2 hb7).up2 hb8).up2 hb9).up2 hb10)).mono ?_; rintro e w11 ⟨X11, rfl, ht11, hX11, hb11⟩; have hs11 := (cell_later hb11 hs10); have hB11 := hB10.trans (hb11.mono hB10.size)) | (go_at_call 22; refine (hp _).mono ?_; rintro e w' ⟨rfl, rfl⟩))
  all_goals
    go_wp2_with fail
    go_ret
    exact by_yes rfl hL.le h0 (hB11.alloc hB11.size _) ((((((((((hX2.up2 hb3).up2 hb4).up2 hb5).up2 hb6).up2 hb7).up2 hb8).up2 hb9).up2 hb10).up2 hb11).up2 ((Below.refl _ _).alloc (Nat.le_refl _) _)) (by rw [ht2, ht1]) (kept_notnot L.tr) ⟨.inl rfl, .inl rfl, HOK.out⟩ (by simp only [Tr.size]; omega)

set_option warningAsError false in
set_option maxHeartbeats 20000000 in
theorem kept_1 (facts how : Int) (hb lo : Nat) (L : LT) (w : World) (hL : L.In w 38 29 lo w.heap.size) (hok : L.tr.ok facts) (hc : w.cell? ⟨hb, 0, none⟩ = some (.int .i64 how))
    (hp : ∀ w : World, Calls Try.prog 22 #[.int .i64 how, .int .i64 5] w fun e w' => e = .returned (.int .i64 1) ∧ w = w') :
    Calls Try.prog 17 #[.pointer (some ⟨L.blk, 0, none⟩), .pointer (some ⟨hb, 0, none⟩)] w (ByPost facts (fun _ => true) L lo w) := by
  have hL0 := hL
  have h0 : Below lo w w.drew := (Below.refl _ _).drew
  replace hL : L.In w.drew 38 29 lo w.drew.heap.size := hL.drew
  have hs0 : w.drew.cell? ⟨hb, 0, none⟩ = some (.int .i64 how) := hc
  have HOK := Lib.hid hok
  clear hok
  go_enter Try.func17, Try.ntmps17
  go_wp2_with fail
  go_region_held3 (fun w' => w'.cell? ⟨hb, 0, none⟩ = some (.int .i64 how)) (first | go_keep | exact hs1 | exact hs2 | exact hs3 | exact hs4 | exact hs5 | exact hs6 | exact hs7 | exact hs8 | exact hs9 | exact hs10 | exact hs11) (first | (go_at_call 18; refine (wNot_ret L lo _ w.drew hL (Nat.le_refl _)).mono ?_; rintro e w1 ⟨X1, rfl, ht1, hX1, hb1⟩; have hs1 := (cell_later hb1 hs0); have hB1 := hb1) | (go_at_call 18; refine (wNot_ret X1 lo _ w1 hX1 (Nat.le_refl _)).mono ?_; rintro e w2 ⟨X2, rfl, ht2, hX2, hb2⟩; have hs2 := (cell_later hb2 hs1); have hB2 := hB1.trans (hb2.mono hB1.size)) | (go_at_call 20; refine (wSame_ret L lo w2 ((hL.up2 hb1).up2 hb2)).mono ?_; rintro e w3 ⟨X3, rfl, ht3, hX3, hb3⟩; have hs3 := (cell_later hb3 hs2); have hB3 := hB2.trans (hb3.mono hB2.size)) | (go_at_call 19; refine (wOf2_ret 4 L X3 lo w3 (((hL.up2 hb1).up2 hb2).up2 hb3) hX3).mono ?_; rintro e w4 ⟨X4, rfl, ht4, hX4, hb4⟩; have hs4 := (cell_later hb4 hs3); have hB4 := hB3.trans (hb4.mono hB3.size)) | (go_at_call 20; refine (wSame_ret L lo w4 ((((hL.up2 hb1).up2 hb2).up2 hb3).up2 hb4)).mono ?_; rintro e w5 ⟨X5, rfl, ht5, hX5, hb5⟩; have hs5 := (cell_later hb5 hs4); have hB5 := hB4.trans (hb5.mono hB4.size)) | (go_at_call 19; refine (wOf2_ret 5 X5 L lo w5 hX5 (((((hL.up2 hb1).up2 hb2).up2 hb3).up2 hb4).up2 hb5)).mono ?_; rintro e w6 ⟨X6, rfl, ht6, hX6, hb6⟩; have hs6 := (cell_later hb6 hs5); have hB6 := hB5.trans (hb6.mono hB5.size)) | (go_at_call 21; refine (wTrue_ret lo w6 ((((((hL.up2 hb1).up2 hb2).up2 hb3).up2 hb4).up2 hb5).up2 hb6).le).mono ?_; rintro e w7 ⟨X7, rfl, ht7, hX7, hb7⟩; have hs7 := (cell_later hb7 hs6); have hB7 := hB6.trans (hb7.mono hB6.size)) | (go_at_call 19; refine (wOf2_ret 4 L X7 lo w7 (((((((hL.up2 hb1).up2 hb2).up2 hb3).up2 hb4).up2 hb5).up2 hb6).up2 hb7) hX7).mono ?_; rintro e w8 ⟨X8, rfl, ht8, hX8, hb8⟩; have hs8 := (cell_later hb8 hs7); have hB8 := hB7.trans (hb8.mono hB7.size)) | (go_at_call 21; refine (wTrue_ret lo w8 ((((((((hL.up2 hb1).up2 hb2).up2 hb3).up2 hb4).up2 hb5).up2 hb6).up2 hb7).up2 hb8).le).mono ?_; rintro e w9 ⟨X9, rfl, ht9, hX9, hb9⟩; have hs9 := (cell_later hb9 hs8); have hB9 := hB8.trans (hb9.mono hB8.size)) | (go_at_call 18; refine (wNot_ret X9 lo _ w9 hX9 (Nat.le_refl _)).mono ?_; rintro e w10 ⟨X10, rfl, ht10, hX10, hb10⟩; have hs10 := (cell_later hb10 hs9); have hB10 := hB9.trans (hb10.mono hB9.size)) | (go_at_call 19; refine (wOf2_ret 5 X10 L lo w10 hX10 ((((((((((hL.up2 hb1).up2 hb2).up2 hb3).up2 hb4).up2 hb5).up2 hb6).up2 hb7).up2 hb8).up2 hb9).up2 hb10)).mono ?_; rintro e w11 ⟨X11, rfl, ht11, hX11, hb11⟩; have hs11 := (cell_later hb11 hs10); have hB11 := hB10.trans (hb11.mono hB10.size)) | (go_at_call 22; refine (hp _).mono ?_; rintro e w' ⟨rfl, rfl⟩))
  all_goals
    go_wp2_with fail
    go_ret
    exact by_yes rfl hL.le h0 (hB11.alloc hB11.size _) ((((((((hX4.up2 hb5).up2 hb6).up2 hb7).up2 hb8).up2 hb9).up2 hb10).up2 hb11).up2 ((Below.refl _ _).alloc (Nat.le_refl _) _)) (by rw [ht4, ht3]) (kept_and L.tr) ⟨.inl rfl, HOK.out, HOK.out⟩ (by simp only [Tr.size]; omega)

set_option warningAsError false in
set_option maxHeartbeats 20000000 in
theorem kept_2 (facts how : Int) (hb lo : Nat) (L : LT) (w : World) (hL : L.In w 38 29 lo w.heap.size) (hok : L.tr.ok facts) (hc : w.cell? ⟨hb, 0, none⟩ = some (.int .i64 how))
    (hp : ∀ w : World, Calls Try.prog 22 #[.int .i64 how, .int .i64 5] w fun e w' => e = .returned (.int .i64 2) ∧ w = w') :
    Calls Try.prog 17 #[.pointer (some ⟨L.blk, 0, none⟩), .pointer (some ⟨hb, 0, none⟩)] w (ByPost facts (fun _ => true) L lo w) := by
  have hL0 := hL
  have h0 : Below lo w w.drew := (Below.refl _ _).drew
  replace hL : L.In w.drew 38 29 lo w.drew.heap.size := hL.drew
  have hs0 : w.drew.cell? ⟨hb, 0, none⟩ = some (.int .i64 how) := hc
  have HOK := Lib.hid hok
  clear hok
  go_enter Try.func17, Try.ntmps17
  go_wp2_with fail
  go_region_held3 (fun w' => w'.cell? ⟨hb, 0, none⟩ = some (.int .i64 how)) (first | go_keep | exact hs1 | exact hs2 | exact hs3 | exact hs4 | exact hs5 | exact hs6 | exact hs7 | exact hs8 | exact hs9 | exact hs10 | exact hs11) (first | (go_at_call 18; refine (wNot_ret L lo _ w.drew hL (Nat.le_refl _)).mono ?_; rintro e w1 ⟨X1, rfl, ht1, hX1, hb1⟩; have hs1 := (cell_later hb1 hs0); have hB1 := hb1) | (go_at_call 18; refine (wNot_ret X1 lo _ w1 hX1 (Nat.le_refl _)).mono ?_; rintro e w2 ⟨X2, rfl, ht2, hX2, hb2⟩; have hs2 := (cell_later hb2 hs1); have hB2 := hB1.trans (hb2.mono hB1.size)) | (go_at_call 20; refine (wSame_ret L lo w2 ((hL.up2 hb1).up2 hb2)).mono ?_; rintro e w3 ⟨X3, rfl, ht3, hX3, hb3⟩; have hs3 := (cell_later hb3 hs2); have hB3 := hB2.trans (hb3.mono hB2.size)) | (go_at_call 19; refine (wOf2_ret 4 L X3 lo w3 (((hL.up2 hb1).up2 hb2).up2 hb3) hX3).mono ?_; rintro e w4 ⟨X4, rfl, ht4, hX4, hb4⟩; have hs4 := (cell_later hb4 hs3); have hB4 := hB3.trans (hb4.mono hB3.size)) | (go_at_call 20; refine (wSame_ret L lo w4 ((((hL.up2 hb1).up2 hb2).up2 hb3).up2 hb4)).mono ?_; rintro e w5 ⟨X5, rfl, ht5, hX5, hb5⟩; have hs5 := (cell_later hb5 hs4); have hB5 := hB4.trans (hb5.mono hB4.size)) | (go_at_call 19; refine (wOf2_ret 5 X5 L lo w5 hX5 (((((hL.up2 hb1).up2 hb2).up2 hb3).up2 hb4).up2 hb5)).mono ?_; rintro e w6 ⟨X6, rfl, ht6, hX6, hb6⟩; have hs6 := (cell_later hb6 hs5); have hB6 := hB5.trans (hb6.mono hB5.size)) | (go_at_call 21; refine (wTrue_ret lo w6 ((((((hL.up2 hb1).up2 hb2).up2 hb3).up2 hb4).up2 hb5).up2 hb6).le).mono ?_; rintro e w7 ⟨X7, rfl, ht7, hX7, hb7⟩; have hs7 := (cell_later hb7 hs6); have hB7 := hB6.trans (hb7.mono hB6.size)) | (go_at_call 19; refine (wOf2_ret 4 L X7 lo w7 (((((((hL.up2 hb1).up2 hb2).up2 hb3).up2 hb4).up2 hb5).up2 hb6).up2 hb7) hX7).mono ?_; rintro e w8 ⟨X8, rfl, ht8, hX8, hb8⟩; have hs8 := (cell_later hb8 hs7); have hB8 := hB7.trans (hb8.mono hB7.size)) | (go_at_call 21; refine (wTrue_ret lo w8 ((((((((hL.up2 hb1).up2 hb2).up2 hb3).up2 hb4).up2 hb5).up2 hb6).up2 hb7).up2 hb8).le).mono ?_; rintro e w9 ⟨X9, rfl, ht9, hX9, hb9⟩; have hs9 := (cell_later hb9 hs8); have hB9 := hB8.trans (hb9.mono hB8.size)) | (go_at_call 18; refine (wNot_ret X9 lo _ w9 hX9 (Nat.le_refl _)).mono ?_; rintro e w10 ⟨X10, rfl, ht10, hX10, hb10⟩; have hs10 := (cell_later hb10 hs9); have hB10 := hB9.trans (hb10.mono hB9.size)) | (go_at_call 19; refine (wOf2_ret 5 X10 L lo w10 hX10 ((((((((((hL.up2 hb1).up2 hb2).up2 hb3).up2 hb4).up2 hb5).up2 hb6).up2 hb7).up2 hb8).up2 hb9).up2 hb10)).mono ?_; rintro e w11 ⟨X11, rfl, ht11, hX11, hb11⟩; have hs11 := (cell_later hb11 hs10); have hB11 := hB10.trans (hb11.mono hB10.size)) | (go_at_call 22; refine (hp _).mono ?_; rintro e w' ⟨rfl, rfl⟩))
  all_goals
    go_wp2_with fail
    go_ret
    exact by_yes rfl hL.le h0 (hB11.alloc hB11.size _) ((((((hX6.up2 hb7).up2 hb8).up2 hb9).up2 hb10).up2 hb11).up2 ((Below.refl _ _).alloc (Nat.le_refl _) _)) (by rw [ht6, ht5]) (kept_or L.tr) ⟨.inr (.inl rfl), HOK.out, HOK.out⟩ (by simp only [Tr.size]; omega)

set_option warningAsError false in
set_option maxHeartbeats 20000000 in
theorem kept_3 (facts how : Int) (hb lo : Nat) (L : LT) (w : World) (hL : L.In w 38 29 lo w.heap.size) (hok : L.tr.ok facts) (hc : w.cell? ⟨hb, 0, none⟩ = some (.int .i64 how))
    (hp : ∀ w : World, Calls Try.prog 22 #[.int .i64 how, .int .i64 5] w fun e w' => e = .returned (.int .i64 3) ∧ w = w') :
    Calls Try.prog 17 #[.pointer (some ⟨L.blk, 0, none⟩), .pointer (some ⟨hb, 0, none⟩)] w (ByPost facts (fun _ => true) L lo w) := by
  have hL0 := hL
  have h0 : Below lo w w.drew := (Below.refl _ _).drew
  replace hL : L.In w.drew 38 29 lo w.drew.heap.size := hL.drew
  have hs0 : w.drew.cell? ⟨hb, 0, none⟩ = some (.int .i64 how) := hc
  have HOK := Lib.hid hok
  clear hok
  go_enter Try.func17, Try.ntmps17
  go_wp2_with fail
  go_region_held3 (fun w' => w'.cell? ⟨hb, 0, none⟩ = some (.int .i64 how)) (first | go_keep | exact hs1 | exact hs2 | exact hs3 | exact hs4 | exact hs5 | exact hs6 | exact hs7 | exact hs8 | exact hs9 | exact hs10 | exact hs11) (first | (go_at_call 18; refine (wNot_ret L lo _ w.drew hL (Nat.le_refl _)).mono ?_; rintro e w1 ⟨X1, rfl, ht1, hX1, hb1⟩; have hs1 := (cell_later hb1 hs0); have hB1 := hb1) | (go_at_call 18; refine (wNot_ret X1 lo _ w1 hX1 (Nat.le_refl _)).mono ?_; rintro e w2 ⟨X2, rfl, ht2, hX2, hb2⟩; have hs2 := (cell_later hb2 hs1); have hB2 := hB1.trans (hb2.mono hB1.size)) | (go_at_call 20; refine (wSame_ret L lo w2 ((hL.up2 hb1).up2 hb2)).mono ?_; rintro e w3 ⟨X3, rfl, ht3, hX3, hb3⟩; have hs3 := (cell_later hb3 hs2); have hB3 := hB2.trans (hb3.mono hB2.size)) | (go_at_call 19; refine (wOf2_ret 4 L X3 lo w3 (((hL.up2 hb1).up2 hb2).up2 hb3) hX3).mono ?_; rintro e w4 ⟨X4, rfl, ht4, hX4, hb4⟩; have hs4 := (cell_later hb4 hs3); have hB4 := hB3.trans (hb4.mono hB3.size)) | (go_at_call 20; refine (wSame_ret L lo w4 ((((hL.up2 hb1).up2 hb2).up2 hb3).up2 hb4)).mono ?_; rintro e w5 ⟨X5, rfl, ht5, hX5, hb5⟩; have hs5 := (cell_later hb5 hs4); have hB5 := hB4.trans (hb5.mono hB4.size)) | (go_at_call 19; refine (wOf2_ret 5 X5 L lo w5 hX5 (((((hL.up2 hb1).up2 hb2).up2 hb3).up2 hb4).up2 hb5)).mono ?_; rintro e w6 ⟨X6, rfl, ht6, hX6, hb6⟩; have hs6 := (cell_later hb6 hs5); have hB6 := hB5.trans (hb6.mono hB5.size)) | (go_at_call 21; refine (wTrue_ret lo w6 ((((((hL.up2 hb1).up2 hb2).up2 hb3).up2 hb4).up2 hb5).up2 hb6).le).mono ?_; rintro e w7 ⟨X7, rfl, ht7, hX7, hb7⟩; have hs7 := (cell_later hb7 hs6); have hB7 := hB6.trans (hb7.mono hB6.size)) | (go_at_call 19; refine (wOf2_ret 4 L X7 lo w7 (((((((hL.up2 hb1).up2 hb2).up2 hb3).up2 hb4).up2 hb5).up2 hb6).up2 hb7) hX7).mono ?_; rintro e w8 ⟨X8, rfl, ht8, hX8, hb8⟩; have hs8 := (cell_later hb8 hs7); have hB8 := hB7.trans (hb8.mono hB7.size)) | (go_at_call 21; refine (wTrue_ret lo w8 ((((((((hL.up2 hb1).up2 hb2).up2 hb3).up2 hb4).up2 hb5).up2 hb6).up2 hb7).up2 hb8).le).mono ?_; rintro e w9 ⟨X9, rfl, ht9, hX9, hb9⟩; have hs9 := (cell_later hb9 hs8); have hB9 := hB8.trans (hb9.mono hB8.size)) | (go_at_call 18; refine (wNot_ret X9 lo _ w9 hX9 (Nat.le_refl _)).mono ?_; rintro e w10 ⟨X10, rfl, ht10, hX10, hb10⟩; have hs10 := (cell_later hb10 hs9); have hB10 := hB9.trans (hb10.mono hB9.size)) | (go_at_call 19; refine (wOf2_ret 5 X10 L lo w10 hX10 ((((((((((hL.up2 hb1).up2 hb2).up2 hb3).up2 hb4).up2 hb5).up2 hb6).up2 hb7).up2 hb8).up2 hb9).up2 hb10)).mono ?_; rintro e w11 ⟨X11, rfl, ht11, hX11, hb11⟩; have hs11 := (cell_later hb11 hs10); have hB11 := hB10.trans (hb11.mono hB10.size)) | (go_at_call 22; refine (hp _).mono ?_; rintro e w' ⟨rfl, rfl⟩))
  all_goals
    go_wp2_with fail
    go_ret
    exact by_yes rfl hL.le h0 (hB11.alloc hB11.size _) ((((hX8.up2 hb9).up2 hb10).up2 hb11).up2 ((Below.refl _ _).alloc (Nat.le_refl _) _)) (by rw [ht8, ht7]) (kept_true L.tr) ⟨.inl rfl, HOK.out, .inl rfl⟩ (by simp only [Tr.size]; omega)

set_option warningAsError false in
set_option maxHeartbeats 20000000 in
theorem kept_4 (facts how : Int) (hb lo : Nat) (L : LT) (w : World) (hL : L.In w 38 29 lo w.heap.size) (hok : L.tr.ok facts) (hc : w.cell? ⟨hb, 0, none⟩ = some (.int .i64 how))
    (hp : ∀ w : World, Calls Try.prog 22 #[.int .i64 how, .int .i64 5] w fun e w' => e = .returned (.int .i64 4) ∧ w = w') :
    Calls Try.prog 17 #[.pointer (some ⟨L.blk, 0, none⟩), .pointer (some ⟨hb, 0, none⟩)] w (ByPost facts (fun _ => true) L lo w) := by
  have hL0 := hL
  have h0 : Below lo w w.drew := (Below.refl _ _).drew
  replace hL : L.In w.drew 38 29 lo w.drew.heap.size := hL.drew
  have hs0 : w.drew.cell? ⟨hb, 0, none⟩ = some (.int .i64 how) := hc
  have HOK := Lib.hid hok
  clear hok
  go_enter Try.func17, Try.ntmps17
  go_wp2_with fail
  go_region_held3 (fun w' => w'.cell? ⟨hb, 0, none⟩ = some (.int .i64 how)) (first | go_keep | exact hs1 | exact hs2 | exact hs3 | exact hs4 | exact hs5 | exact hs6 | exact hs7 | exact hs8 | exact hs9 | exact hs10 | exact hs11) (first | (go_at_call 18; refine (wNot_ret L lo _ w.drew hL (Nat.le_refl _)).mono ?_; rintro e w1 ⟨X1, rfl, ht1, hX1, hb1⟩; have hs1 := (cell_later hb1 hs0); have hB1 := hb1) | (go_at_call 18; refine (wNot_ret X1 lo _ w1 hX1 (Nat.le_refl _)).mono ?_; rintro e w2 ⟨X2, rfl, ht2, hX2, hb2⟩; have hs2 := (cell_later hb2 hs1); have hB2 := hB1.trans (hb2.mono hB1.size)) | (go_at_call 20; refine (wSame_ret L lo w2 ((hL.up2 hb1).up2 hb2)).mono ?_; rintro e w3 ⟨X3, rfl, ht3, hX3, hb3⟩; have hs3 := (cell_later hb3 hs2); have hB3 := hB2.trans (hb3.mono hB2.size)) | (go_at_call 19; refine (wOf2_ret 4 L X3 lo w3 (((hL.up2 hb1).up2 hb2).up2 hb3) hX3).mono ?_; rintro e w4 ⟨X4, rfl, ht4, hX4, hb4⟩; have hs4 := (cell_later hb4 hs3); have hB4 := hB3.trans (hb4.mono hB3.size)) | (go_at_call 20; refine (wSame_ret L lo w4 ((((hL.up2 hb1).up2 hb2).up2 hb3).up2 hb4)).mono ?_; rintro e w5 ⟨X5, rfl, ht5, hX5, hb5⟩; have hs5 := (cell_later hb5 hs4); have hB5 := hB4.trans (hb5.mono hB4.size)) | (go_at_call 19; refine (wOf2_ret 5 X5 L lo w5 hX5 (((((hL.up2 hb1).up2 hb2).up2 hb3).up2 hb4).up2 hb5)).mono ?_; rintro e w6 ⟨X6, rfl, ht6, hX6, hb6⟩; have hs6 := (cell_later hb6 hs5); have hB6 := hB5.trans (hb6.mono hB5.size)) | (go_at_call 21; refine (wTrue_ret lo w6 ((((((hL.up2 hb1).up2 hb2).up2 hb3).up2 hb4).up2 hb5).up2 hb6).le).mono ?_; rintro e w7 ⟨X7, rfl, ht7, hX7, hb7⟩; have hs7 := (cell_later hb7 hs6); have hB7 := hB6.trans (hb7.mono hB6.size)) | (go_at_call 19; refine (wOf2_ret 4 L X7 lo w7 (((((((hL.up2 hb1).up2 hb2).up2 hb3).up2 hb4).up2 hb5).up2 hb6).up2 hb7) hX7).mono ?_; rintro e w8 ⟨X8, rfl, ht8, hX8, hb8⟩; have hs8 := (cell_later hb8 hs7); have hB8 := hB7.trans (hb8.mono hB7.size)) | (go_at_call 21; refine (wTrue_ret lo w8 ((((((((hL.up2 hb1).up2 hb2).up2 hb3).up2 hb4).up2 hb5).up2 hb6).up2 hb7).up2 hb8).le).mono ?_; rintro e w9 ⟨X9, rfl, ht9, hX9, hb9⟩; have hs9 := (cell_later hb9 hs8); have hB9 := hB8.trans (hb9.mono hB8.size)) | (go_at_call 18; refine (wNot_ret X9 lo _ w9 hX9 (Nat.le_refl _)).mono ?_; rintro e w10 ⟨X10, rfl, ht10, hX10, hb10⟩; have hs10 := (cell_later hb10 hs9); have hB10 := hB9.trans (hb10.mono hB9.size)) | (go_at_call 19; refine (wOf2_ret 5 X10 L lo w10 hX10 ((((((((((hL.up2 hb1).up2 hb2).up2 hb3).up2 hb4).up2 hb5).up2 hb6).up2 hb7).up2 hb8).up2 hb9).up2 hb10)).mono ?_; rintro e w11 ⟨X11, rfl, ht11, hX11, hb11⟩; have hs11 := (cell_later hb11 hs10); have hB11 := hB10.trans (hb11.mono hB10.size)) | (go_at_call 22; refine (hp _).mono ?_; rintro e w' ⟨rfl, rfl⟩))
  all_goals
    go_wp2_with fail
    go_ret
    exact by_yes rfl hL.le h0 (hB11.alloc hB11.size _) (hX11.up2 ((Below.refl _ _).alloc (Nat.le_refl _) _)) (by rw [ht11, ht10, ht9]) (kept_false L.tr) ⟨.inr (.inl rfl), ⟨.inl rfl, .inl rfl⟩, HOK.out⟩ (by simp only [Tr.size]; omega)

theorem kept_by (facts how : Int) (hb B : Nat) (w0 : World) (hbox : Blk w0 hb 3 #[.int .i64 how]) (hB : hb < B) : ByOk facts (fun _ => true) 17 #[.pointer (some ⟨hb, 0, none⟩)] B w0 := by
  refine ⟨enters_of Try.func17 (by kernel_rfl) rfl, fun L w lo hb0 hBlo hL hok h60 => ?_⟩
  have hc : w.cell? ⟨hb, 0, none⟩ = some (.int .i64 how) := (hbox.below hb0 hB).cell 0
  obtain ⟨i, hi, hp⟩ := pick_det how 5 (by decide) (by decide)
  match i, hi with
  | 0, _ => exact kept_0 facts how hb lo L w hL hok hc hp
  | 1, _ => exact kept_1 facts how hb lo L w hL hok hc hp
  | 2, _ => exact kept_2 facts how hb lo L w hL hok hc hp
  | 3, _ => exact kept_3 facts how hb lo L w hL hok hc hp
  | 4, _ => exact kept_4 facts how hb lo L w hL hok hc hp
end Go.Proofs.Ytdfbclkafocnpaa
