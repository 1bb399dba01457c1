/- The rewriting of TopNextsOfBoth returns, for every right formula that lies in memory, no formula or one that is true for the same lists of states. Conditions: the formula has at most 60 nodes, and its blocks lie from a given one on. -/
import Derived.Test.YtdfbclkafocnpaaFree
import Derived.Test.YtdfbclkafocnpaaLaws
namespace Go.Proofs.Ytdfbclkafocnpaa
open Go.RowKit

def nboB : Tr → Bool
  | .n1 k _ a => (k == 6 && (a.kind == 4 || a.kind == 5)) || (k == 8 && a.kind == 4) || (k == 9 && a.kind == 5)
  | _ => false


set_option linter.unusedSimpArgs false in
set_option linter.unusedVariables false in
set_option maxHeartbeats 8000000 in
set_option maxRecDepth 20000 in
theorem nbo_by (facts : Int) (B : Nat) (w0 : World) : ByOk facts nboB 31 #[] B w0 := by
  refine ⟨enters_of Try.func31 (by kernel_rfl) rfl, fun L w lo hb0 hBlo hL hok h60 => ?_⟩
  show Calls Try.prog 31 #[.pointer (some ⟨L.blk, 0, none⟩)] w (ByPost facts nboB L lo w)
  clear hb0 hBlo h60
  have c0 := LT.open0 hL
  have h0 : Below lo w w := Below.refl _ _
  rcases LT.cases_ok hok with ⟨b, f, v, rfl⟩ | ⟨b, f, v, rfl⟩ | ⟨b, f, v, a, rfl⟩ | ⟨b, f, v, a, c, rfl⟩ | ⟨b, f, v, a, c, rfl⟩ | ⟨b, f, v, a, rfl⟩ | ⟨b, f, v, a, c, rfl⟩ | ⟨b, f, v, a, rfl⟩ | ⟨b, f, v, a, rfl⟩ <;> simp only [LT.blk, LT.tr, Tr.kind] at c0 ⊢
  · go_enter Try.func31, Try.ntmps31
    go_wp2_with fail
    go_ret
    exact by_no rfl h0
  · go_enter Try.func31, Try.ntmps31
    go_wp2_with fail
    go_ret
    exact by_no rfl h0
  · go_enter Try.func31, Try.ntmps31
    go_wp2_with fail
    go_ret
    exact by_no rfl h0
  · go_enter Try.func31, Try.ntmps31
    go_wp2_with fail
    go_ret
    exact by_no rfl h0
  · go_enter Try.func31, Try.ntmps31
    go_wp2_with fail
    go_ret
    exact by_no rfl h0
  · have hoka := hok.2
    by_cases hka : a.tr.kind = 4
    · obtain ⟨g, cap, rfl, -, c2, cg, ha⟩ := LT.open1 hL
      have hoka := hok.2
      obtain ⟨ba, fa, va, x, y, rfl⟩ := LT.is2 hoka hka (by decide)
      clear hka
      obtain ⟨ga, capa, rfl, ca0, ca2, cag, cah, hx, hy⟩ := LT.open2 ha
      have hokx := hoka.2.1
      have hoky := hoka.2.2
      replace c0 : w.cell? ⟨b, 0, none⟩ = some (.int .i64 6) := c0
      replace c2 : w.cell? ⟨b, 2, none⟩ = some (.slice (some ⟨g, 0, none⟩) 1 cap) := c2
      replace cg : w.cell? ⟨g, 0, none⟩ = some (.pointer (some ⟨ba, 0, none⟩)) := cg
      replace ca0 : w.cell? ⟨ba, 0, none⟩ = some (.int .i64 4) := ca0
      replace ca2 : w.cell? ⟨ba, 2, none⟩ = some (.slice (some ⟨ga, 0, none⟩) 2 capa) := ca2
      replace cag : w.cell? ⟨ga, 0, none⟩ = some (.pointer (some ⟨x.blk, 0, none⟩)) := cag
      replace cah : w.cell? ⟨ga, 1, none⟩ = some (.pointer (some ⟨y.blk, 0, none⟩)) := cah
      replace hx : x.In w 38 29 lo w.heap.size := hx
      replace hy : y.In w 38 29 lo w.heap.size := hy
      replace ha : (LT.n2 ba 4 fa (.slice (some ⟨ga, 0, none⟩) 2 capa) x y).In w 38 29 lo w.heap.size := ha
      replace hL : (LT.n1 b 6 f (.slice (some ⟨g, 0, none⟩) 1 cap) (LT.n2 ba 4 fa (.slice (some ⟨ga, 0, none⟩) 2 capa) x y)).In w 38 29 lo w.heap.size := hL
      have HOK := Lib.hid hok
      have OKx := Lib.hid hokx
      have OKy := Lib.hid hoky
      clear hok hokx hoky hoka
      go_enter Try.func31, Try.ntmps31
      go_wp2_with fail
      go_region_held3 (fun w' => w'.cell? ⟨b, 0, none⟩ = some (.int .i64 6) ∧ w'.cell? ⟨ba, 0, none⟩ = some (.int .i64 4) ∧ w'.cell? ⟨ba, 2, none⟩ = some (.slice (some ⟨ga, 0, none⟩) 2 capa) ∧ w'.cell? ⟨ga, 0, none⟩ = some (.pointer (some ⟨x.blk, 0, none⟩)) ∧ w'.cell? ⟨ga, 1, none⟩ = some (.pointer (some ⟨y.blk, 0, none⟩))) (first | exact ⟨c0_3, ca0_3, ca2_3, cag_3, cah_3⟩ | exact ⟨keep_new c0_3, keep_new ca0_3, keep_new ca2_3, keep_new cag_3, keep_new cah_3⟩ | exact ⟨keep_aa c0_3, keep_aa ca0_3, keep_aa ca2_3, keep_aa cag_3, keep_aa cah_3⟩ | exact ⟨c0_2, ca0_2, ca2_2, cag_2, cah_2⟩ | exact ⟨keep_new c0_2, keep_new ca0_2, keep_new ca2_2, keep_new cag_2, keep_new cah_2⟩ | exact ⟨keep_aa c0_2, keep_aa ca0_2, keep_aa ca2_2, keep_aa cag_2, keep_aa cah_2⟩ | exact ⟨c0_1, ca0_1, ca2_1, cag_1, cah_1⟩ | exact ⟨keep_new c0_1, keep_new ca0_1, keep_new ca2_1, keep_new cag_1, keep_new cah_1⟩ | exact ⟨keep_aa c0_1, keep_aa ca0_1, keep_aa ca2_1, keep_aa cag_1, keep_aa cah_1⟩ | exact ⟨keep_aad c0, keep_aad ca0, keep_aad ca2, keep_aad cag, keep_aad cah⟩ | exact ⟨keep_ad c0, keep_ad ca0, keep_ad ca2, keep_ad cag, keep_ad cah⟩ | exact ⟨keep_d c0, keep_d ca0, keep_d ca2, keep_d cag, keep_d cah⟩) (first | (have _q := hb2; go_at_call 19; refine (wOf2_ret 4 X1 X2 lo w2 (hX1.up2 hb2) hX2).mono ?_; rintro e w3 ⟨X3, rfl, ht3, hX3, hb3⟩; have c0_3 := cell_later hb3 c0_2; have ca0_3 := cell_later hb3 ca0_2; have ca2_3 := cell_later hb3 ca2_2; have cag_3 := cell_later hb3 cag_2; have cah_3 := cell_later hb3 cah_2; have hB3 := hB2.trans (hb3.mono hB2.size)) | (have _q := hb1; go_at_call 19; refine (wOf1_row 6 y lo w1 _ _ (by first | exact Below.refl _ _ | exact bel_a) (by have := hL.le; have := hb1.size; omega) (by first | exact Blk.new _ _ _ | exact blk_pd.later hc1 | exact blk_qd.later hc1) (hy.up2 hb1)).mono ?_; rintro e w2 ⟨X2, rfl, ht2, hX2, hb2, hc2⟩; have c0_2 := cell_later hb2 c0_1; have ca0_2 := cell_later hb2 ca0_1; have ca2_2 := cell_later hb2 ca2_1; have cag_2 := cell_later hb2 cag_1; have cah_2 := cell_later hb2 cah_1; have hB2 := hB1.trans (hb2.mono hB1.size)) | (go_at_call 19; refine (wOf1_row 6 x lo w _ _ (by first | exact bel_ad | exact bel_aad) (by have := hL.le; omega) (by first | exact blk_nd | exact blk_qd | exact blk_pd) hx).mono ?_; rintro e w1 ⟨X1, rfl, ht1, hX1, hb1, hc1⟩; have c0_1 := cell_later hb1 c0; have ca0_1 := cell_later hb1 ca0; have ca2_1 := cell_later hb1 ca2; have cag_1 := cell_later hb1 cag; have cah_1 := cell_later hb1 cah; have hB1 := hb1))
      all_goals
        go_wp2_with fail
        go_ret
        exact by_yes rfl hL.le (Below.refl lo w) hB3 hX3 (by simp only [ht3, ht2, ht1, LT.tr]) (next_and _ _ _ _) ⟨.inl rfl, ⟨.inr (.inl rfl), OKx.out⟩, ⟨.inr (.inl rfl), OKy.out⟩⟩ (by simp only [LT.tr, Tr.size]; omega)
    · by_cases hk5 : a.tr.kind = 5
      · have hka := hk5
        obtain ⟨g, cap, rfl, -, c2, cg, ha⟩ := LT.open1 hL
        have hoka := hok.2
        obtain ⟨ba, fa, va, x, y, rfl⟩ := LT.is2 hoka hka (by decide)
        clear hka
        obtain ⟨ga, capa, rfl, ca0, ca2, cag, cah, hx, hy⟩ := LT.open2 ha
        have hokx := hoka.2.1
        have hoky := hoka.2.2
        replace c0 : w.cell? ⟨b, 0, none⟩ = some (.int .i64 6) := c0
        replace c2 : w.cell? ⟨b, 2, none⟩ = some (.slice (some ⟨g, 0, none⟩) 1 cap) := c2
        replace cg : w.cell? ⟨g, 0, none⟩ = some (.pointer (some ⟨ba, 0, none⟩)) := cg
        replace ca0 : w.cell? ⟨ba, 0, none⟩ = some (.int .i64 5) := ca0
        replace ca2 : w.cell? ⟨ba, 2, none⟩ = some (.slice (some ⟨ga, 0, none⟩) 2 capa) := ca2
        replace cag : w.cell? ⟨ga, 0, none⟩ = some (.pointer (some ⟨x.blk, 0, none⟩)) := cag
        replace cah : w.cell? ⟨ga, 1, none⟩ = some (.pointer (some ⟨y.blk, 0, none⟩)) := cah
        replace hx : x.In w 38 29 lo w.heap.size := hx
        replace hy : y.In w 38 29 lo w.heap.size := hy
        replace ha : (LT.n2 ba 5 fa (.slice (some ⟨ga, 0, none⟩) 2 capa) x y).In w 38 29 lo w.heap.size := ha
        replace hL : (LT.n1 b 6 f (.slice (some ⟨g, 0, none⟩) 1 cap) (LT.n2 ba 5 fa (.slice (some ⟨ga, 0, none⟩) 2 capa) x y)).In w 38 29 lo w.heap.size := hL
        have HOK := Lib.hid hok
        have OKx := Lib.hid hokx
        have OKy := Lib.hid hoky
        clear hok hokx hoky hoka
        go_enter Try.func31, Try.ntmps31
        go_wp2_with fail
        go_region_held3 (fun w' => w'.cell? ⟨b, 0, none⟩ = some (.int .i64 6) ∧ w'.cell? ⟨ba, 0, none⟩ = some (.int .i64 5) ∧ w'.cell? ⟨ba, 2, none⟩ = some (.slice (some ⟨ga, 0, none⟩) 2 capa) ∧ w'.cell? ⟨ga, 0, none⟩ = some (.pointer (some ⟨x.blk, 0, none⟩)) ∧ w'.cell? ⟨ga, 1, none⟩ = some (.pointer (some ⟨y.blk, 0, none⟩))) (first | exact ⟨c0_3, ca0_3, ca2_3, cag_3, cah_3⟩ | exact ⟨keep_new c0_3, keep_new ca0_3, keep_new ca2_3, keep_new cag_3, keep_new cah_3⟩ | exact ⟨keep_aa c0_3, keep_aa ca0_3, keep_aa ca2_3, keep_aa cag_3, keep_aa cah_3⟩ | exact ⟨c0_2, ca0_2, ca2_2, cag_2, cah_2⟩ | exact ⟨keep_new c0_2, keep_new ca0_2, keep_new ca2_2, keep_new cag_2, keep_new cah_2⟩ | exact ⟨keep_aa c0_2, keep_aa ca0_2, keep_aa ca2_2, keep_aa cag_2, keep_aa cah_2⟩ | exact ⟨c0_1, ca0_1, ca2_1, cag_1, cah_1⟩ | exact ⟨keep_new c0_1, keep_new ca0_1, keep_new ca2_1, keep_new cag_1, keep_new cah_1⟩ | exact ⟨keep_aa c0_1, keep_aa ca0_1, keep_aa ca2_1, keep_aa cag_1, keep_aa cah_1⟩ | exact ⟨keep_aad c0, keep_aad ca0, keep_aad ca2, keep_aad cag, keep_aad cah⟩ | exact ⟨keep_ad c0, keep_ad ca0, keep_ad ca2, keep_ad cag, keep_ad cah⟩ | exact ⟨keep_d c0, keep_d ca0, keep_d ca2, keep_d cag, keep_d cah⟩) (first | (have _q := hb2; go_at_call 19; refine (wOf2_ret 5 X1 X2 lo w2 (hX1.up2 hb2) hX2).mono ?_; rintro e w3 ⟨X3, rfl, ht3, hX3, hb3⟩; have c0_3 := cell_later hb3 c0_2; have ca0_3 := cell_later hb3 ca0_2; have ca2_3 := cell_later hb3 ca2_2; have cag_3 := cell_later hb3 cag_2; have cah_3 := cell_later hb3 cah_2; have hB3 := hB2.trans (hb3.mono hB2.size)) | (have _q := hb1; go_at_call 19; refine (wOf1_row 6 y lo w1 _ _ (by first | exact Below.refl _ _ | exact bel_a) (by have := hL.le; have := hb1.size; omega) (by first | exact Blk.new _ _ _ | exact blk_pd.later hc1 | exact blk_qd.later hc1) (hy.up2 hb1)).mono ?_; rintro e w2 ⟨X2, rfl, ht2, hX2, hb2, hc2⟩; have c0_2 := cell_later hb2 c0_1; have ca0_2 := cell_later hb2 ca0_1; have ca2_2 := cell_later hb2 ca2_1; have cag_2 := cell_later hb2 cag_1; have cah_2 := cell_later hb2 cah_1; have hB2 := hB1.trans (hb2.mono hB1.size)) | (go_at_call 19; refine (wOf1_row 6 x lo w _ _ (by first | exact bel_ad | exact bel_aad) (by have := hL.le; omega) (by first | exact blk_nd | exact blk_qd | exact blk_pd) hx).mono ?_; rintro e w1 ⟨X1, rfl, ht1, hX1, hb1, hc1⟩; have c0_1 := cell_later hb1 c0; have ca0_1 := cell_later hb1 ca0; have ca2_1 := cell_later hb1 ca2; have cag_1 := cell_later hb1 cag; have cah_1 := cell_later hb1 cah; have hB1 := hb1))
        all_goals
          go_wp2_with fail
          go_ret
          exact by_yes rfl hL.le (Below.refl lo w) hB3 hX3 (by simp only [ht3, ht2, ht1, LT.tr]) (next_or _ _ _ _) ⟨.inr (.inl rfl), ⟨.inr (.inl rfl), OKx.out⟩, ⟨.inr (.inl rfl), OKy.out⟩⟩ (by simp only [LT.tr, Tr.size]; omega)
      · obtain ⟨g, cap, rfl, -, c2, cg, ha⟩ := LT.open1 hL
        have ca := LT.open0 ha
        have hb4 : (a.tr.kind == 4) = false := by simpa using hka
        have hb5 : (a.tr.kind == 5) = false := by simpa using hk5
        clear hoka hok ha hL
        go_enter Try.func31, Try.ntmps31
        go_wp2_with fail
        go_ret
        exact by_no (by simp [nboB, LT.tr, hka, hk5]) h0
  · go_enter Try.func31, Try.ntmps31
    go_wp2_with fail
    go_ret
    exact by_no rfl h0
  · have hoka := hok.2
    by_cases hka : a.tr.kind = 4
    · obtain ⟨g, cap, rfl, -, c2, cg, ha⟩ := LT.open1 hL
      have hoka := hok.2
      obtain ⟨ba, fa, va, x, y, rfl⟩ := LT.is2 hoka hka (by decide)
      clear hka
      obtain ⟨ga, capa, rfl, ca0, ca2, cag, cah, hx, hy⟩ := LT.open2 ha
      have hokx := hoka.2.1
      have hoky := hoka.2.2
      replace c0 : w.cell? ⟨b, 0, none⟩ = some (.int .i64 8) := c0
      replace c2 : w.cell? ⟨b, 2, none⟩ = some (.slice (some ⟨g, 0, none⟩) 1 cap) := c2
      replace cg : w.cell? ⟨g, 0, none⟩ = some (.pointer (some ⟨ba, 0, none⟩)) := cg
      replace ca0 : w.cell? ⟨ba, 0, none⟩ = some (.int .i64 4) := ca0
      replace ca2 : w.cell? ⟨ba, 2, none⟩ = some (.slice (some ⟨ga, 0, none⟩) 2 capa) := ca2
      replace cag : w.cell? ⟨ga, 0, none⟩ = some (.pointer (some ⟨x.blk, 0, none⟩)) := cag
      replace cah : w.cell? ⟨ga, 1, none⟩ = some (.pointer (some ⟨y.blk, 0, none⟩)) := cah
      replace hx : x.In w 38 29 lo w.heap.size := hx
      replace hy : y.In w 38 29 lo w.heap.size := hy
      replace ha : (LT.n2 ba 4 fa (.slice (some ⟨ga, 0, none⟩) 2 capa) x y).In w 38 29 lo w.heap.size := ha
      replace hL : (LT.n1 b 8 f (.slice (some ⟨g, 0, none⟩) 1 cap) (LT.n2 ba 4 fa (.slice (some ⟨ga, 0, none⟩) 2 capa) x y)).In w 38 29 lo w.heap.size := hL
      have HOK := Lib.hid hok
      have OKx := Lib.hid hokx
      have OKy := Lib.hid hoky
      clear hok hokx hoky hoka
      go_enter Try.func31, Try.ntmps31
      go_wp2_with fail
      go_region_held3 (fun w' => w'.cell? ⟨b, 0, none⟩ = some (.int .i64 8) ∧ w'.cell? ⟨ba, 0, none⟩ = some (.int .i64 4) ∧ w'.cell? ⟨ba, 2, none⟩ = some (.slice (some ⟨ga, 0, none⟩) 2 capa) ∧ w'.cell? ⟨ga, 0, none⟩ = some (.pointer (some ⟨x.blk, 0, none⟩)) ∧ w'.cell? ⟨ga, 1, none⟩ = some (.pointer (some ⟨y.blk, 0, none⟩))) (first | exact ⟨c0_3, ca0_3, ca2_3, cag_3, cah_3⟩ | exact ⟨keep_new c0_3, keep_new ca0_3, keep_new ca2_3, keep_new cag_3, keep_new cah_3⟩ | exact ⟨keep_aa c0_3, keep_aa ca0_3, keep_aa ca2_3, keep_aa cag_3, keep_aa cah_3⟩ | exact ⟨c0_2, ca0_2, ca2_2, cag_2, cah_2⟩ | exact ⟨keep_new c0_2, keep_new ca0_2, keep_new ca2_2, keep_new cag_2, keep_new cah_2⟩ | exact ⟨keep_aa c0_2, keep_aa ca0_2, keep_aa ca2_2, keep_aa cag_2, keep_aa cah_2⟩ | exact ⟨c0_1, ca0_1, ca2_1, cag_1, cah_1⟩ | exact ⟨keep_new c0_1, keep_new ca0_1, keep_new ca2_1, keep_new cag_1, keep_new cah_1⟩ | exact ⟨keep_aa c0_1, keep_aa ca0_1, keep_aa ca2_1, keep_aa cag_1, keep_aa cah_1⟩ | exact ⟨keep_aad c0, keep_aad ca0, keep_aad ca2, keep_aad cag, keep_aad cah⟩ | exact ⟨keep_ad c0, keep_ad ca0, keep_ad ca2, keep_ad cag, keep_ad cah⟩ | exact ⟨keep_d c0, keep_d ca0, keep_d ca2, keep_d cag, keep_d cah⟩) (first | (have _q := hb2; go_at_call 19; refine (wOf2_ret 4 X1 X2 lo w2 (hX1.up2 hb2) hX2).mono ?_; rintro e w3 ⟨X3, rfl, ht3, hX3, hb3⟩; have c0_3 := cell_later hb3 c0_2; have ca0_3 := cell_later hb3 ca0_2; have ca2_3 := cell_later hb3 ca2_2; have cag_3 := cell_later hb3 cag_2; have cah_3 := cell_later hb3 cah_2; have hB3 := hB2.trans (hb3.mono hB2.size)) | (have _q := hb1; go_at_call 19; refine (wOf1_row 8 y lo w1 _ _ (by first | exact Below.refl _ _ | exact bel_a) (by have := hL.le; have := hb1.size; omega) (by first | exact Blk.new _ _ _ | exact blk_pd.later hc1 | exact blk_qd.later hc1) (hy.up2 hb1)).mono ?_; rintro e w2 ⟨X2, rfl, ht2, hX2, hb2, hc2⟩; have c0_2 := cell_later hb2 c0_1; have ca0_2 := cell_later hb2 ca0_1; have ca2_2 := cell_later hb2 ca2_1; have cag_2 := cell_later hb2 cag_1; have cah_2 := cell_later hb2 cah_1; have hB2 := hB1.trans (hb2.mono hB1.size)) | (go_at_call 19; refine (wOf1_row 8 x lo w _ _ (by first | exact bel_ad | exact bel_aad) (by have := hL.le; omega) (by first | exact blk_nd | exact blk_qd | exact blk_pd) hx).mono ?_; rintro e w1 ⟨X1, rfl, ht1, hX1, hb1, hc1⟩; have c0_1 := cell_later hb1 c0; have ca0_1 := cell_later hb1 ca0; have ca2_1 := cell_later hb1 ca2; have cag_1 := cell_later hb1 cag; have cah_1 := cell_later hb1 cah; have hB1 := hb1))
      all_goals
        go_wp2_with fail
        go_ret
        exact by_yes rfl hL.le (Below.refl lo w) hB3 hX3 (by simp only [ht3, ht2, ht1, LT.tr]) (always_both _ _ _ _) ⟨.inl rfl, ⟨.inr (.inr (.inl rfl)), OKx.out⟩, ⟨.inr (.inr (.inl rfl)), OKy.out⟩⟩ (by simp only [LT.tr, Tr.size]; omega)
    · by_cases hk5 : a.tr.kind = 5
      · obtain ⟨g, cap, rfl, -, c2, cg, ha⟩ := LT.open1 hL
        have ca := LT.open0 ha
        rw [hk5] at ca
        clear hoka hok ha hL
        go_enter Try.func31, Try.ntmps31
        go_wp2_with fail
        go_ret
        exact by_no (by simp [nboB, LT.tr, hk5]) h0
      · obtain ⟨g, cap, rfl, -, c2, cg, ha⟩ := LT.open1 hL
        have ca := LT.open0 ha
        have hb4 : (a.tr.kind == 4) = false := by simpa using hka
        have hb5 : (a.tr.kind == 5) = false := by simpa using hk5
        clear hoka hok ha hL
        go_enter Try.func31, Try.ntmps31
        go_wp2_with fail
        go_ret
        exact by_no (by simp [nboB, LT.tr, hka, hk5]) h0
  · have hoka := hok.2
    by_cases hka : a.tr.kind = 4
    · have h5 : a.tr.kind ≠ 5 := by omega
      obtain ⟨g, cap, rfl, -, c2, cg, ha⟩ := LT.open1 hL
      have ca := LT.open0 ha
      rw [hka] at ca
      clear hoka hok ha hL
      go_enter Try.func31, Try.ntmps31
      go_wp2_with fail
      go_ret
      exact by_no (by simp [nboB, LT.tr, hka]) h0
    · by_cases hk5 : a.tr.kind = 5
      · have hka := hk5
        obtain ⟨g, cap, rfl, -, c2, cg, ha⟩ := LT.open1 hL
        have hoka := hok.2
        obtain ⟨ba, fa, va, x, y, rfl⟩ := LT.is2 hoka hka (by decide)
        clear hka
        obtain ⟨ga, capa, rfl, ca0, ca2, cag, cah, hx, hy⟩ := LT.open2 ha
        have hokx := hoka.2.1
        have hoky := hoka.2.2
        replace c0 : w.cell? ⟨b, 0, none⟩ = some (.int .i64 9) := c0
        replace c2 : w.cell? ⟨b, 2, none⟩ = some (.slice (some ⟨g, 0, none⟩) 1 cap) := c2
        replace cg : w.cell? ⟨g, 0, none⟩ = some (.pointer (some ⟨ba, 0, none⟩)) := cg
        replace ca0 : w.cell? ⟨ba, 0, none⟩ = some (.int .i64 5) := ca0
        replace ca2 : w.cell? ⟨ba, 2, none⟩ = some (.slice (some ⟨ga, 0, none⟩) 2 capa) := ca2
        replace cag : w.cell? ⟨ga, 0, none⟩ = some (.pointer (some ⟨x.blk, 0, none⟩)) := cag
        replace cah : w.cell? ⟨ga, 1, none⟩ = some (.pointer (some ⟨y.blk, 0, none⟩)) := cah
        replace hx : x.In w 38 29 lo w.heap.size := hx
        replace hy : y.In w 38 29 lo w.heap.size := hy
        replace ha : (LT.n2 ba 5 fa (.slice (some ⟨ga, 0, none⟩) 2 capa) x y).In w 38 29 lo w.heap.size := ha
        replace hL : (LT.n1 b 9 f (.slice (some ⟨g, 0, none⟩) 1 cap) (LT.n2 ba 5 fa (.slice (some ⟨ga, 0, none⟩) 2 capa) x y)).In w 38 29 lo w.heap.size := hL
        have HOK := Lib.hid hok
        have OKx := Lib.hid hokx
        have OKy := Lib.hid hoky
        clear hok hokx hoky hoka
        go_enter Try.func31, Try.ntmps31
        go_wp2_with fail
        go_region_held3 (fun w' => w'.cell? ⟨b, 0, none⟩ = some (.int .i64 9) ∧ w'.cell? ⟨ba, 0, none⟩ = some (.int .i64 5) ∧ w'.cell? ⟨ba, 2, none⟩ = some (.slice (some ⟨ga, 0, none⟩) 2 capa) ∧ w'.cell? ⟨ga, 0, none⟩ = some (.pointer (some ⟨x.blk, 0, none⟩)) ∧ w'.cell? ⟨ga, 1, none⟩ = some (.pointer (some ⟨y.blk, 0, none⟩))) (first | exact ⟨c0_3, ca0_3, ca2_3, cag_3, cah_3⟩ | exact ⟨keep_new c0_3, keep_new ca0_3, keep_new ca2_3, keep_new cag_3, keep_new cah_3⟩ | exact ⟨keep_aa c0_3, keep_aa ca0_3, keep_aa ca2_3, keep_aa cag_3, keep_aa cah_3⟩ | exact ⟨c0_2, ca0_2, ca2_2, cag_2, cah_2⟩ | exact ⟨keep_new c0_2, keep_new ca0_2, keep_new ca2_2, keep_new cag_2, keep_new cah_2⟩ | exact ⟨keep_aa c0_2, keep_aa ca0_2, keep_aa ca2_2, keep_aa cag_2, keep_aa cah_2⟩ | exact ⟨c0_1, ca0_1, ca2_1, cag_1, cah_1⟩ | exact ⟨keep_new c0_1, keep_new ca0_1, keep_new ca2_1, keep_new cag_1, keep_new cah_1⟩ | exact ⟨keep_aa c0_1, keep_aa ca0_1, keep_aa ca2_1, keep_aa cag_1, keep_aa cah_1⟩ | exact ⟨keep_aad c0, keep_aad ca0, keep_aad ca2, keep_aad cag, keep_aad cah⟩ | exact ⟨keep_ad c0, keep_ad ca0, keep_ad ca2, keep_ad cag, keep_ad cah⟩ | exact ⟨keep_d c0, keep_d ca0, keep_d ca2, keep_d cag, keep_d cah⟩) (first | (have _q := hb2; go_at_call 19; refine (wOf2_ret 5 X1 X2 lo w2 (hX1.up2 hb2) hX2).mono ?_; rintro e w3 ⟨X3, rfl, ht3, hX3, hb3⟩; have c0_3 := cell_later hb3 c0_2; have ca0_3 := cell_later hb3 ca0_2; have ca2_3 := cell_later hb3 ca2_2; have cag_3 := cell_later hb3 cag_2; have cah_3 := cell_later hb3 cah_2; have hB3 := hB2.trans (hb3.mono hB2.size)) | (have _q := hb1; go_at_call 19; refine (wOf1_row 9 y lo w1 _ _ (by first | exact Below.refl _ _ | exact bel_a) (by have := hL.le; have := hb1.size; omega) (by first | exact Blk.new _ _ _ | exact blk_pd.later hc1 | exact blk_qd.later hc1) (hy.up2 hb1)).mono ?_; rintro e w2 ⟨X2, rfl, ht2, hX2, hb2, hc2⟩; have c0_2 := cell_later hb2 c0_1; have ca0_2 := cell_later hb2 ca0_1; have ca2_2 := cell_later hb2 ca2_1; have cag_2 := cell_later hb2 cag_1; have cah_2 := cell_later hb2 cah_1; have hB2 := hB1.trans (hb2.mono hB1.size)) | (go_at_call 19; refine (wOf1_row 9 x lo w _ _ (by first | exact bel_ad | exact bel_aad) (by have := hL.le; omega) (by first | exact blk_nd | exact blk_qd | exact blk_pd) hx).mono ?_; rintro e w1 ⟨X1, rfl, ht1, hX1, hb1, hc1⟩; have c0_1 := cell_later hb1 c0; have ca0_1 := cell_later hb1 ca0; have ca2_1 := cell_later hb1 ca2; have cag_1 := cell_later hb1 cag; have cah_1 := cell_later hb1 cah; have hB1 := hb1))
        all_goals
          go_wp2_with fail
          go_ret
          exact by_yes rfl hL.le (Below.refl lo w) hB3 hX3 (by simp only [ht3, ht2, ht1, LT.tr]) (some_both _ _ _ _) ⟨.inr (.inl rfl), ⟨.inr (.inr (.inr rfl)), OKx.out⟩, ⟨.inr (.inr (.inr rfl)), OKy.out⟩⟩ (by simp only [LT.tr, Tr.size]; omega)
      · obtain ⟨g, cap, rfl, -, c2, cg, ha⟩ := LT.open1 hL
        have ca := LT.open0 ha
        have hb4 : (a.tr.kind == 4) = false := by simpa using hka
        have hb5 : (a.tr.kind == 5) = false := by simpa using hk5
        clear hoka hok ha hL
        go_enter Try.func31, Try.ntmps31
        go_wp2_with fail
        go_ret
        exact by_no (by simp [nboB, LT.tr, hka, hk5]) h0
end Go.Proofs.Ytdfbclkafocnpaa
