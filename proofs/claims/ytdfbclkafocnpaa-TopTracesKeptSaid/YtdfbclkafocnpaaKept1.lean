/- The rewriting of TopTracesKept, where the number picks form 1, returns a formula that is true for the same lists of states. Conditions: the formula is right and lies in memory, and the number's box is there. -/
import Derived.Test.YtdfbclkafocnpaaShape
import Derived.Test.YtdfbclkafocnpaaLaws
namespace Go.Proofs.Ytdfbclkafocnpaa
open Go.RowKit

set_option linter.unusedSimpArgs false in
set_option linter.unusedVariables false in
set_option maxHeartbeats 20000000 in
set_option maxRecDepth 20000 in
theorem kept_1 (facts how : Int) (hb lo : Nat) (L : LT) (w : World) (hL : L.In w 38 29 lo w.heap.size) (hok : L.tr.ok facts) (hc : w.cell? ⟨hb, 0, none⟩ = some (.int .i64 how))
    (hp : ∀ w : World, Calls Try.prog 22 #[.int .i64 how, .int .i64 5] w fun e w' => e = .returned (.int .i64 1) ∧ w = w') :
    Calls Try.prog 17 #[.pointer (some ⟨L.blk, 0, none⟩), .pointer (some ⟨hb, 0, none⟩)] w (ByPost facts (fun _ => true) L lo w) := by
  have h0 : Below lo w w.drew := (Below.refl _ _).drew
  replace hL : L.In w.drew 38 29 lo w.drew.heap.size := hL.drew
  have hs0 : w.drew.cell? ⟨hb, 0, none⟩ = some (.int .i64 how) := hc
  have HOK := Lib.hid hok
  have HL := Lib.hid hL
  clear hok hL hc
  go_enter Try.func17, Try.ntmps17
  go_wp2_with fail
  go_region_law (go_simp; first | (go_at_call 22; refine (hp _).mono ?_; rintro e w' ⟨rfl, rfl⟩) | (have _q := Hb10; go_at_call 19; refine (wOf2_ret 5 X10 L lo w10 HX10.out ((((((((((HL.out.up2 Hb1.out).up2 Hb2.out).up2 Hb3.out).up2 Hb4.out).up2 Hb5.out).up2 Hb6.out).up2 Hb7.out).up2 Hb8.out).up2 Hb9.out).up2 Hb10.out)).mono ?_; rintro e w11 ⟨X11, rfl, ht11, hX11, hb11⟩; have hs11 := cell_later hb11 hs10; have hk11 : ∀ o : Obj, (w11.alloc o).cell? ⟨hb, 0, none⟩ = some (.int .i64 how) := fun o => keep_new hs11; have HX11 := Lib.hid hX11; have Hb11 := Lib.hid hb11; have Ht11 := Lib.hid ht11; clear hX11 hb11 ht11 hs10 hk10) | (have _q := Hb9; go_at_call 18; refine (wNot_ret X9 lo _ w9 HX9.out (Nat.le_refl _)).mono ?_; rintro e w10 ⟨X10, rfl, ht10, hX10, hb10⟩; have hs10 := cell_later hb10 hs9; have hk10 : ∀ o : Obj, (w10.alloc o).cell? ⟨hb, 0, none⟩ = some (.int .i64 how) := fun o => keep_new hs10; have HX10 := Lib.hid hX10; have Hb10 := Lib.hid hb10; have Ht10 := Lib.hid ht10; clear hX10 hb10 ht10 hs9 hk9) | (have _q := Hb8; go_at_call 21; refine (wTrue_ret lo w8 ((((((((HL.out.up2 Hb1.out).up2 Hb2.out).up2 Hb3.out).up2 Hb4.out).up2 Hb5.out).up2 Hb6.out).up2 Hb7.out).up2 Hb8.out).le).mono ?_; rintro e w9 ⟨X9, rfl, ht9, hX9, hb9⟩; have hs9 := cell_later hb9 hs8; have hk9 : ∀ o : Obj, (w9.alloc o).cell? ⟨hb, 0, none⟩ = some (.int .i64 how) := fun o => keep_new hs9; have HX9 := Lib.hid hX9; have Hb9 := Lib.hid hb9; have Ht9 := Lib.hid ht9; clear hX9 hb9 ht9 hs8 hk8) | (have _q := Hb7; go_at_call 19; refine (wOf2_ret 4 L X7 lo w7 (((((((HL.out.up2 Hb1.out).up2 Hb2.out).up2 Hb3.out).up2 Hb4.out).up2 Hb5.out).up2 Hb6.out).up2 Hb7.out) HX7.out).mono ?_; rintro e w8 ⟨X8, rfl, ht8, hX8, hb8⟩; have hs8 := cell_later hb8 hs7; have hk8 : ∀ o : Obj, (w8.alloc o).cell? ⟨hb, 0, none⟩ = some (.int .i64 how) := fun o => keep_new hs8; have HX8 := Lib.hid hX8; have Hb8 := Lib.hid hb8; have Ht8 := Lib.hid ht8; clear hX8 hb8 ht8 hs7 hk7) | (have _q := Hb6; go_at_call 21; refine (wTrue_ret lo w6 ((((((HL.out.up2 Hb1.out).up2 Hb2.out).up2 Hb3.out).up2 Hb4.out).up2 Hb5.out).up2 Hb6.out).le).mono ?_; rintro e w7 ⟨X7, rfl, ht7, hX7, hb7⟩; have hs7 := cell_later hb7 hs6; have hk7 : ∀ o : Obj, (w7.alloc o).cell? ⟨hb, 0, none⟩ = some (.int .i64 how) := fun o => keep_new hs7; have HX7 := Lib.hid hX7; have Hb7 := Lib.hid hb7; have Ht7 := Lib.hid ht7; clear hX7 hb7 ht7 hs6 hk6) | (have _q := Hb5; go_at_call 19; refine (wOf2_ret 5 X5 L lo w5 HX5.out (((((HL.out.up2 Hb1.out).up2 Hb2.out).up2 Hb3.out).up2 Hb4.out).up2 Hb5.out)).mono ?_; rintro e w6 ⟨X6, rfl, ht6, hX6, hb6⟩; have hs6 := cell_later hb6 hs5; have hk6 : ∀ o : Obj, (w6.alloc o).cell? ⟨hb, 0, none⟩ = some (.int .i64 how) := fun o => keep_new hs6; have HX6 := Lib.hid hX6; have Hb6 := Lib.hid hb6; have Ht6 := Lib.hid ht6; clear hX6 hb6 ht6 hs5 hk5) | (have _q := Hb4; go_at_call 20; refine (wSame_ret L lo w4 ((((HL.out.up2 Hb1.out).up2 Hb2.out).up2 Hb3.out).up2 Hb4.out)).mono ?_; rintro e w5 ⟨X5, rfl, ht5, hX5, hb5⟩; have hs5 := cell_later hb5 hs4; have hk5 : ∀ o : Obj, (w5.alloc o).cell? ⟨hb, 0, none⟩ = some (.int .i64 how) := fun o => keep_new hs5; have HX5 := Lib.hid hX5; have Hb5 := Lib.hid hb5; have Ht5 := Lib.hid ht5; clear hX5 hb5 ht5 hs4 hk4) | (have _q := Hb3; go_at_call 19; refine (wOf2_ret 4 L X3 lo w3 (((HL.out.up2 Hb1.out).up2 Hb2.out).up2 Hb3.out) HX3.out).mono ?_; rintro e w4 ⟨X4, rfl, ht4, hX4, hb4⟩; have hs4 := cell_later hb4 hs3; have hk4 : ∀ o : Obj, (w4.alloc o).cell? ⟨hb, 0, none⟩ = some (.int .i64 how) := fun o => keep_new hs4; have HX4 := Lib.hid hX4; have Hb4 := Lib.hid hb4; have Ht4 := Lib.hid ht4; clear hX4 hb4 ht4 hs3 hk3) | (have _q := Hb2; go_at_call 20; refine (wSame_ret L lo w2 ((HL.out.up2 Hb1.out).up2 Hb2.out)).mono ?_; rintro e w3 ⟨X3, rfl, ht3, hX3, hb3⟩; have hs3 := cell_later hb3 hs2; have hk3 : ∀ o : Obj, (w3.alloc o).cell? ⟨hb, 0, none⟩ = some (.int .i64 how) := fun o => keep_new hs3; have HX3 := Lib.hid hX3; have Hb3 := Lib.hid hb3; have Ht3 := Lib.hid ht3; clear hX3 hb3 ht3 hs2 hk2) | (have _q := Hb1; go_at_call 18; refine (wNot_ret X1 lo _ w1 HX1.out (Nat.le_refl _)).mono ?_; rintro e w2 ⟨X2, rfl, ht2, hX2, hb2⟩; have hs2 := cell_later hb2 hs1; have hk2 : ∀ o : Obj, (w2.alloc o).cell? ⟨hb, 0, none⟩ = some (.int .i64 how) := fun o => keep_new hs2; have HX2 := Lib.hid hX2; have Hb2 := Lib.hid hb2; have Ht2 := Lib.hid ht2; clear hX2 hb2 ht2 hs1 hk1) | (go_at_call 18; refine (wNot_ret L lo _ w.drew HL.out (Nat.le_refl _)).mono ?_; rintro e w1 ⟨X1, rfl, ht1, hX1, hb1⟩; have hs1 := cell_later hb1 hs0; have hk1 : ∀ o : Obj, (w1.alloc o).cell? ⟨hb, 0, none⟩ = some (.int .i64 how) := fun o => keep_new hs1; have HX1 := Lib.hid hX1; have Hb1 := Lib.hid hb1; have Ht1 := Lib.hid ht1; clear hX1 hb1 ht1 hs0))
  all_goals
    go_wp2_with fail
    go_ret
    have B1 := Hb1.out
    have B2 := B1.trans (Hb2.out.mono B1.size)
    have B3 := B2.trans (Hb3.out.mono B2.size)
    have B4 := B3.trans (Hb4.out.mono B3.size)
    have B5 := B4.trans (Hb5.out.mono B4.size)
    have B6 := B5.trans (Hb6.out.mono B5.size)
    have B7 := B6.trans (Hb7.out.mono B6.size)
    have B8 := B7.trans (Hb8.out.mono B7.size)
    have B9 := B8.trans (Hb9.out.mono B8.size)
    have B10 := B9.trans (Hb10.out.mono B9.size)
    have B11 := B10.trans (Hb11.out.mono B10.size)
    exact by_yes rfl HL.out.le h0 (B11.alloc B11.size _) ((((((((HX4.out.up2 Hb5.out).up2 Hb6.out).up2 Hb7.out).up2 Hb8.out).up2 Hb9.out).up2 Hb10.out).up2 Hb11.out).up2 ((Below.refl _ _).alloc (Nat.le_refl _) _)) (by rw [Ht4.out, Ht3.out]) (kept_and L.tr) ⟨.inl rfl, HOK.out, HOK.out⟩ (by simp only [Tr.size]; omega)
end Go.Proofs.Ytdfbclkafocnpaa
