/- The rewriting of TopTimesOfNext returns, for every right formula that lies in memory, no formula or one that is true for the same lists of states. Conditions: the formula has at most 60 nodes, and its blocks lie from a given one on. -/
import Derived.Test.YtdfbclkafocnpaaFree
import Derived.Test.YtdfbclkafocnpaaLaws
namespace Go.Proofs.Ytdfbclkafocnpaa
open Go.RowKit

def onB : Tr → Bool
  | .n1 k _ a => (k == 9 && a.kind == 6) || (k == 6 && (a.kind == 9 || a.kind == 7))
  | .n2 k _ a c => k == 7 && a.kind == 6 && c.kind == 6
  | _ => false


set_option linter.unusedSimpArgs false in
set_option linter.unusedVariables false in
set_option maxHeartbeats 8000000 in
set_option maxRecDepth 20000 in
theorem on_by (facts : Int) (B : Nat) (w0 : World) : ByOk facts onB 37 #[] B w0 := by
  refine ⟨enters_of Try.func37 (by kernel_rfl) rfl, fun L w lo hb0 hBlo hL hok h60 => ?_⟩
  show Calls Try.prog 37 #[.pointer (some ⟨L.blk, 0, none⟩)] w (ByPost facts onB L lo w)
  clear hb0 hBlo h60
  have c0 := LT.open0 hL
  have h0 : Below lo w w := Below.refl _ _
  rcases LT.cases_ok hok with ⟨b, f, v, rfl⟩ | ⟨b, f, v, rfl⟩ | ⟨b, f, v, a, rfl⟩ | ⟨b, f, v, a, c, rfl⟩ | ⟨b, f, v, a, c, rfl⟩ | ⟨b, f, v, a, rfl⟩ | ⟨b, f, v, a, c, rfl⟩ | ⟨b, f, v, a, rfl⟩ | ⟨b, f, v, a, rfl⟩ <;> simp only [LT.blk, LT.tr, Tr.kind] at c0 ⊢
  · go_enter Try.func37, Try.ntmps37
    go_wp2_with (first | (go_at_call_of 38 (b); refine (is38_ret b _ w c0).mono ?_; rintro e w' ⟨rfl, rfl⟩))
    go_ret
    exact by_no rfl h0
  · go_enter Try.func37, Try.ntmps37
    go_wp2_with (first | (go_at_call_of 38 (b); refine (is38_ret b _ w c0).mono ?_; rintro e w' ⟨rfl, rfl⟩))
    go_ret
    exact by_no rfl h0
  · go_enter Try.func37, Try.ntmps37
    go_wp2_with (first | (go_at_call_of 38 (b); refine (is38_ret b _ w c0).mono ?_; rintro e w' ⟨rfl, rfl⟩))
    go_ret
    exact by_no (by simp [onB, LT.tr]) h0
  · go_enter Try.func37, Try.ntmps37
    go_wp2_with (first | (go_at_call_of 38 (b); refine (is38_ret b _ w c0).mono ?_; rintro e w' ⟨rfl, rfl⟩))
    go_ret
    exact by_no (by simp [onB, LT.tr]) h0
  · go_enter Try.func37, Try.ntmps37
    go_wp2_with (first | (go_at_call_of 38 (b); refine (is38_ret b _ w c0).mono ?_; rintro e w' ⟨rfl, rfl⟩))
    go_ret
    exact by_no (by simp [onB, LT.tr]) h0
  · have hoka := hok.2
    by_cases hka : a.tr.kind = 9
    · obtain ⟨g, cap, rfl, -, c2, cg, ha⟩ := LT.open1 hL
      have hoka := hok.2
      obtain ⟨ba, fa, va, x, rfl⟩ := LT.is1 hoka hka (by decide)
      clear hka
      obtain ⟨ga, capa, rfl, ca0, ca2, cag, hx⟩ := LT.open1 ha
      have hokx := hoka.2
      replace c0 : w.cell? ⟨b, 0, none⟩ = some (.int .i64 6) := c0
      replace c2 : w.cell? ⟨b, 2, none⟩ = some (.slice (some ⟨g, 0, none⟩) 1 cap) := c2
      replace cg : w.cell? ⟨g, 0, none⟩ = some (.pointer (some ⟨ba, 0, none⟩)) := cg
      replace ca0 : w.cell? ⟨ba, 0, none⟩ = some (.int .i64 9) := ca0
      replace ca2 : w.cell? ⟨ba, 2, none⟩ = some (.slice (some ⟨ga, 0, none⟩) 1 capa) := ca2
      replace cag : w.cell? ⟨ga, 0, none⟩ = some (.pointer (some ⟨x.blk, 0, none⟩)) := cag
      replace hx : x.In w 38 29 lo w.heap.size := hx
      replace ha : (LT.n1 ba 9 fa (.slice (some ⟨ga, 0, none⟩) 1 capa) x).In w 38 29 lo w.heap.size := ha
      replace hL : (LT.n1 b 6 f (.slice (some ⟨g, 0, none⟩) 1 cap) (LT.n1 ba 9 fa (.slice (some ⟨ga, 0, none⟩) 1 capa) x)).In w 38 29 lo w.heap.size := hL
      have HOK := Lib.hid hok
      have OKx := Lib.hid hokx
      clear hok hokx hoka
      go_enter Try.func37, Try.ntmps37
      go_wp2_with (first |  (go_at_call_of 38 (b); refine (is38_ret b _ w c0).mono ?_; rintro e w' ⟨rfl, rfl⟩) | (go_at_call_of 38 (ba); refine (is38_ret ba _ w ca0).mono ?_; rintro e w' ⟨rfl, rfl⟩) | (have _q := hb1; go_at_call 19; refine (wOf1_ret 9 X1 lo w1 hX1).mono ?_; rintro e w2 ⟨X2, rfl, ht2, hX2, hb2⟩; have c0_2 := cell_later hb2 c0_1; have c2_2 := cell_later hb2 c2_1; have cg_2 := cell_later hb2 cg_1; have ca0_2 := cell_later hb2 ca0_1; have ca2_2 := cell_later hb2 ca2_1; have cag_2 := cell_later hb2 cag_1; have hB2 := hB1.trans (hb2.mono hB1.size)) | (go_at_call 19; refine (wOf1_ret 6 x lo w hx).mono ?_; rintro e w1 ⟨X1, rfl, ht1, hX1, hb1⟩; have c0_1 := cell_later hb1 c0; have c2_1 := cell_later hb1 c2; have cg_1 := cell_later hb1 cg; have ca0_1 := cell_later hb1 ca0; have ca2_1 := cell_later hb1 ca2; have cag_1 := cell_later hb1 cag; have hB1 := hb1))
      all_goals
        go_ret
        exact by_yes (by simp [onB, LT.tr, Tr.kind]) hL.le h0 hB2 hX2 (by simp only [ht2, ht1, LT.tr]) (ofnext_some' _ _ _) ⟨.inr (.inr (.inr rfl)), ⟨.inr (.inl rfl), OKx.out⟩⟩ (by simp only [LT.tr, Tr.size]; omega)
    · have hb9 : (a.tr.kind == 9) = false := by simpa using hka
      by_cases hk7 : a.tr.kind = 7
      · clear hka
        have hka := hk7
        clear hk7
        clear hb9
        obtain ⟨g, cap, rfl, -, c2, cg, ha⟩ := LT.open1 hL
        have hoka := hok.2
        obtain ⟨ba, fa, va, x, y, rfl⟩ := LT.is2 hoka hka (by decide)
        clear hka
        obtain ⟨ga, capa, rfl, ca0, ca2, cag, cah, hx, hy⟩ := LT.open2 ha
        have hokx := hoka.2.1
        have hoky := hoka.2.2
        replace c0 : w.cell? ⟨b, 0, none⟩ = some (.int .i64 6) := c0
        replace c2 : w.cell? ⟨b, 2, none⟩ = some (.slice (some ⟨g, 0, none⟩) 1 cap) := c2
        replace cg : w.cell? ⟨g, 0, none⟩ = some (.pointer (some ⟨ba, 0, none⟩)) := cg
        replace ca0 : w.cell? ⟨ba, 0, none⟩ = some (.int .i64 7) := ca0
        replace ca2 : w.cell? ⟨ba, 2, none⟩ = some (.slice (some ⟨ga, 0, none⟩) 2 capa) := ca2
        replace cag : w.cell? ⟨ga, 0, none⟩ = some (.pointer (some ⟨x.blk, 0, none⟩)) := cag
        replace cah : w.cell? ⟨ga, 1, none⟩ = some (.pointer (some ⟨y.blk, 0, none⟩)) := cah
        replace hx : x.In w 38 29 lo w.heap.size := hx
        replace hy : y.In w 38 29 lo w.heap.size := hy
        replace ha : (LT.n2 ba 7 fa (.slice (some ⟨ga, 0, none⟩) 2 capa) x y).In w 38 29 lo w.heap.size := ha
        replace hL : (LT.n1 b 6 f (.slice (some ⟨g, 0, none⟩) 1 cap) (LT.n2 ba 7 fa (.slice (some ⟨ga, 0, none⟩) 2 capa) x y)).In w 38 29 lo w.heap.size := hL
        have HOK := Lib.hid hok
        have OKx := Lib.hid hokx
        have OKy := Lib.hid hoky
        clear hok hokx hoky hoka
        go_enter Try.func37, Try.ntmps37
        go_wp2_with (first | (go_at_call_of 38 (b); refine (is38_ret b _ w c0).mono ?_; rintro e w' ⟨rfl, rfl⟩) | (go_at_call_of 38 (ba); refine (is38_ret ba _ w ca0).mono ?_; rintro e w' ⟨rfl, rfl⟩))
        go_region_held3 (fun w' => w'.cell? ⟨ga, 0, none⟩ = some (.pointer (some ⟨x.blk, 0, none⟩)) ∧ w'.cell? ⟨ga, 1, none⟩ = some (.pointer (some ⟨y.blk, 0, none⟩))) (first | exact ⟨cag_3, cah_3⟩ | exact ⟨keep_new cag_3, keep_new cah_3⟩ | exact ⟨keep_aa cag_3, keep_aa cah_3⟩ | exact ⟨cag_2, cah_2⟩ | exact ⟨keep_new cag_2, keep_new cah_2⟩ | exact ⟨keep_aa cag_2, keep_aa cah_2⟩ | exact ⟨cag_1, cah_1⟩ | exact ⟨keep_new cag_1, keep_new cah_1⟩ | exact ⟨keep_aa cag_1, keep_aa cah_1⟩ | exact ⟨keep_aad cag, keep_aad cah⟩ | exact ⟨keep_ad cag, keep_ad cah⟩ | exact ⟨keep_d cag, keep_d cah⟩) (first | (have _q := hb2; go_at_call 19; refine (wOf2_ret 7 X1 X2 lo w2 (hX1.up2 hb2) hX2).mono ?_; rintro e w3 ⟨X3, rfl, ht3, hX3, hb3⟩; have cag_3 := cell_later hb3 cag_2; have cah_3 := cell_later hb3 cah_2; have hB3 := hB2.trans (hb3.mono hB2.size)) | (have _q := hb1; go_at_call 19; refine (wOf1_row 6 y lo w1 _ _ (by first | exact Below.refl _ _ | exact bel_a) (by have := hL.le; have := hb1.size; omega) (by first | exact Blk.new _ _ _ | exact blk_pd.later hc1 | exact blk_qd.later hc1) (hy.up2 hb1)).mono ?_; rintro e w2 ⟨X2, rfl, ht2, hX2, hb2, hc2⟩; have cag_2 := cell_later hb2 cag_1; have cah_2 := cell_later hb2 cah_1; have hB2 := hB1.trans (hb2.mono hB1.size)) | (go_at_call 19; refine (wOf1_row 6 x lo w _ _ (by first | exact bel_ad | exact bel_aad) (by have := hL.le; omega) (by first | exact blk_nd | exact blk_qd | exact blk_pd) hx).mono ?_; rintro e w1 ⟨X1, rfl, ht1, hX1, hb1, hc1⟩; have cag_1 := cell_later hb1 cag; have cah_1 := cell_later hb1 cah; have hB1 := hb1))
        all_goals
          go_wp2_with fail
          go_ret
          exact by_yes (by simp [onB, LT.tr, Tr.kind]) hL.le (Below.refl lo w) hB3 hX3 (by simp only [ht3, ht2, ht1, LT.tr]) (ofnext_until _ _ _ _) ⟨.inr (.inr rfl), ⟨.inr (.inl rfl), OKx.out⟩, ⟨.inr (.inl rfl), OKy.out⟩⟩ (by simp only [LT.tr, Tr.size]; omega)
      · obtain ⟨g, cap, rfl, -, c2, cg, ha⟩ := LT.open1 hL
        have ca := LT.open0 ha
        have hb7 : (a.tr.kind == 7) = false := by simpa using hk7
        clear hoka hok ha hL
        go_enter Try.func37, Try.ntmps37
        go_wp2_with (first | (go_at_call_of 38 (b); refine (is38_ret b _ w c0).mono ?_; rintro e w' ⟨rfl, rfl⟩) | (go_at_call_of 38 (a.blk); refine (is38_ret a.blk _ w ca).mono ?_; rintro e w' ⟨rfl, rfl⟩))
        go_ret
        exact by_no (by simp [onB, LT.tr, hka, hk7]) h0
  · have hoka := hok.2.1
    have hokc := hok.2.2
    by_cases hka : a.tr.kind = 6
    · by_cases hkc : c.tr.kind = 6
      · obtain ⟨g, cap, rfl, -, c2, cg, ch, ha, hc⟩ := LT.open2 hL
        have hoka := hok.2.1
        have hokc := hok.2.2
        obtain ⟨ba, fa, va, x, rfl⟩ := LT.is1 hoka hka (by decide)
        clear hka
        obtain ⟨ga, capa, rfl, ca0, ca2, cag, hx⟩ := LT.open1 ha
        have hokx := hoka.2
        obtain ⟨bc, fc, vc, y, rfl⟩ := LT.is1 hokc hkc (by decide)
        clear hkc
        obtain ⟨gc, capc, rfl, cc0, cc2, ccg, hy⟩ := LT.open1 hc
        have hoky := hokc.2
        replace c0 : w.cell? ⟨b, 0, none⟩ = some (.int .i64 7) := c0
        replace c2 : w.cell? ⟨b, 2, none⟩ = some (.slice (some ⟨g, 0, none⟩) 2 cap) := c2
        replace cg : w.cell? ⟨g, 0, none⟩ = some (.pointer (some ⟨ba, 0, none⟩)) := cg
        replace ch : w.cell? ⟨g, 1, none⟩ = some (.pointer (some ⟨bc, 0, none⟩)) := ch
        replace ca0 : w.cell? ⟨ba, 0, none⟩ = some (.int .i64 6) := ca0
        replace ca2 : w.cell? ⟨ba, 2, none⟩ = some (.slice (some ⟨ga, 0, none⟩) 1 capa) := ca2
        replace cag : w.cell? ⟨ga, 0, none⟩ = some (.pointer (some ⟨x.blk, 0, none⟩)) := cag
        replace cc0 : w.cell? ⟨bc, 0, none⟩ = some (.int .i64 6) := cc0
        replace cc2 : w.cell? ⟨bc, 2, none⟩ = some (.slice (some ⟨gc, 0, none⟩) 1 capc) := cc2
        replace ccg : w.cell? ⟨gc, 0, none⟩ = some (.pointer (some ⟨y.blk, 0, none⟩)) := ccg
        replace hx : x.In w 38 29 lo w.heap.size := hx
        replace ha : (LT.n1 ba 6 fa (.slice (some ⟨ga, 0, none⟩) 1 capa) x).In w 38 29 lo w.heap.size := ha
        replace hy : y.In w 38 29 lo w.heap.size := hy
        replace hc : (LT.n1 bc 6 fc (.slice (some ⟨gc, 0, none⟩) 1 capc) y).In w 38 29 lo w.heap.size := hc
        replace hL : (LT.n2 b 7 f (.slice (some ⟨g, 0, none⟩) 2 cap) (LT.n1 ba 6 fa (.slice (some ⟨ga, 0, none⟩) 1 capa) x) (LT.n1 bc 6 fc (.slice (some ⟨gc, 0, none⟩) 1 capc) y)).In w 38 29 lo w.heap.size := hL
        have HOK := Lib.hid hok
        have OKx := Lib.hid hokx
        have OKy := Lib.hid hoky
        clear hok hokx hoka hoky hokc
        go_enter Try.func37, Try.ntmps37
        go_wp2_with (first | (go_at_call_of 38 (b); refine (is38_ret b _ w c0).mono ?_; rintro e w' ⟨rfl, rfl⟩) | (go_at_call_of 38 (ba); refine (is38_ret ba _ w ca0).mono ?_; rintro e w' ⟨rfl, rfl⟩) | (go_at_call_of 38 (bc); refine (is38_ret bc _ w cc0).mono ?_; rintro e w' ⟨rfl, rfl⟩))
        have c0 : w.drew.cell? ⟨b, 0, none⟩ = some (.int .i64 7) := c0
        have c2 : w.drew.cell? ⟨b, 2, none⟩ = some (.slice (some ⟨g, 0, none⟩) 2 cap) := c2
        have cg : w.drew.cell? ⟨g, 0, none⟩ = some (.pointer (some ⟨ba, 0, none⟩)) := cg
        have ch : w.drew.cell? ⟨g, 1, none⟩ = some (.pointer (some ⟨bc, 0, none⟩)) := ch
        have ca0 : w.drew.cell? ⟨ba, 0, none⟩ = some (.int .i64 6) := ca0
        have ca2 : w.drew.cell? ⟨ba, 2, none⟩ = some (.slice (some ⟨ga, 0, none⟩) 1 capa) := ca2
        have cag : w.drew.cell? ⟨ga, 0, none⟩ = some (.pointer (some ⟨x.blk, 0, none⟩)) := cag
        have cc0 : w.drew.cell? ⟨bc, 0, none⟩ = some (.int .i64 6) := cc0
        have cc2 : w.drew.cell? ⟨bc, 2, none⟩ = some (.slice (some ⟨gc, 0, none⟩) 1 capc) := cc2
        have ccg : w.drew.cell? ⟨gc, 0, none⟩ = some (.pointer (some ⟨y.blk, 0, none⟩)) := ccg
        replace hx : x.In w.drew 38 29 lo w.drew.heap.size := hx.drew
        replace ha : (LT.n1 ba 6 fa (.slice (some ⟨ga, 0, none⟩) 1 capa) x).In w.drew 38 29 lo w.drew.heap.size := ha.drew
        replace hy : y.In w.drew 38 29 lo w.drew.heap.size := hy.drew
        replace hc : (LT.n1 bc 6 fc (.slice (some ⟨gc, 0, none⟩) 1 capc) y).In w.drew 38 29 lo w.drew.heap.size := hc.drew
        replace hL : (LT.n2 b 7 f (.slice (some ⟨g, 0, none⟩) 2 cap) (LT.n1 ba 6 fa (.slice (some ⟨ga, 0, none⟩) 1 capa) x) (LT.n1 bc 6 fc (.slice (some ⟨gc, 0, none⟩) 1 capc) y)).In w.drew 38 29 lo w.drew.heap.size := hL.drew
        go_region_held3 (fun w' => w'.cell? ⟨b, 0, none⟩ = some (.int .i64 7) ∧ w'.cell? ⟨b, 2, none⟩ = some (.slice (some ⟨g, 0, none⟩) 2 cap) ∧ w'.cell? ⟨g, 0, none⟩ = some (.pointer (some ⟨ba, 0, none⟩)) ∧ w'.cell? ⟨g, 1, none⟩ = some (.pointer (some ⟨bc, 0, none⟩)) ∧ w'.cell? ⟨ba, 0, none⟩ = some (.int .i64 6) ∧ w'.cell? ⟨ba, 2, none⟩ = some (.slice (some ⟨ga, 0, none⟩) 1 capa) ∧ w'.cell? ⟨ga, 0, none⟩ = some (.pointer (some ⟨x.blk, 0, none⟩)) ∧ w'.cell? ⟨bc, 0, none⟩ = some (.int .i64 6) ∧ w'.cell? ⟨bc, 2, none⟩ = some (.slice (some ⟨gc, 0, none⟩) 1 capc) ∧ w'.cell? ⟨gc, 0, none⟩ = some (.pointer (some ⟨y.blk, 0, none⟩))) (first | exact ⟨c0_2, c2_2, cg_2, ch_2, ca0_2, ca2_2, cag_2, cc0_2, cc2_2, ccg_2⟩ | exact ⟨keep_new c0_2, keep_new c2_2, keep_new cg_2, keep_new ch_2, keep_new ca0_2, keep_new ca2_2, keep_new cag_2, keep_new cc0_2, keep_new cc2_2, keep_new ccg_2⟩ | exact ⟨c0_1, c2_1, cg_1, ch_1, ca0_1, ca2_1, cag_1, cc0_1, cc2_1, ccg_1⟩ | exact ⟨keep_new c0_1, keep_new c2_1, keep_new cg_1, keep_new ch_1, keep_new ca0_1, keep_new ca2_1, keep_new cag_1, keep_new cc0_1, keep_new cc2_1, keep_new ccg_1⟩ | exact ⟨c0, c2, cg, ch, ca0, ca2, cag, cc0, cc2, ccg⟩ | exact ⟨keep_drew1 c0, keep_drew1 c2, keep_drew1 cg, keep_drew1 ch, keep_drew1 ca0, keep_drew1 ca2, keep_drew1 cag, keep_drew1 cc0, keep_drew1 cc2, keep_drew1 ccg⟩) (first | (have _q := hb1; go_at_call 19; refine (wOf1_ret 6 X1 lo w1 hX1).mono ?_; rintro e w2 ⟨X2, rfl, ht2, hX2, hb2⟩; have c0_2 := cell_later hb2 c0_1; have c2_2 := cell_later hb2 c2_1; have cg_2 := cell_later hb2 cg_1; have ch_2 := cell_later hb2 ch_1; have ca0_2 := cell_later hb2 ca0_1; have ca2_2 := cell_later hb2 ca2_1; have cag_2 := cell_later hb2 cag_1; have cc0_2 := cell_later hb2 cc0_1; have cc2_2 := cell_later hb2 cc2_1; have ccg_2 := cell_later hb2 ccg_1; have hB2 := hB1.trans (hb2.mono hB1.size)) | (go_at_call 19; refine (wOf2_ret 7 x y lo w.drew hx hy).mono ?_; rintro e w1 ⟨X1, rfl, ht1, hX1, hb1⟩; have c0_1 := cell_later hb1 c0; have c2_1 := cell_later hb1 c2; have cg_1 := cell_later hb1 cg; have ch_1 := cell_later hb1 ch; have ca0_1 := cell_later hb1 ca0; have ca2_1 := cell_later hb1 ca2; have cag_1 := cell_later hb1 cag; have cc0_1 := cell_later hb1 cc0; have cc2_1 := cell_later hb1 cc2; have ccg_1 := cell_later hb1 ccg; have hB1 := hb1))
        all_goals
          go_wp2_with fail
          go_ret
          exact by_yes (by simp [onB, LT.tr, Tr.kind]) hL.le (Below.refl lo w).drew hB2 hX2 (by simp only [ht2, ht1, LT.tr]) (ofnext_until' _ _ _ _ _) ⟨.inr (.inl rfl), ⟨.inr (.inr rfl), OKx.out, OKy.out⟩⟩ (by simp only [LT.tr, Tr.size]; omega)
      · obtain ⟨g, cap, rfl, -, c2, cg, ch, ha, hc⟩ := LT.open2 hL
        have ca := LT.open0 ha
        have cc := LT.open0 hc
        have hb6 : (a.tr.kind == 6) = true := by simpa using hka
        have hd6 : (c.tr.kind == 6) = false := by simpa using hkc
        clear hoka hokc hok ha hc hL
        go_enter Try.func37, Try.ntmps37
        go_wp2_with (first | (go_at_call_of 38 (b); refine (is38_ret b _ w c0).mono ?_; rintro e w' ⟨rfl, rfl⟩) | (go_at_call_of 38 (a.blk); refine (is38_ret a.blk _ w ca).mono ?_; rintro e w' ⟨rfl, rfl⟩) | (go_at_call_of 38 (c.blk); refine (is38_ret c.blk _ w cc).mono ?_; rintro e w' ⟨rfl, rfl⟩))
        go_ret
        exact by_no (by simp [onB, LT.tr, hka, hkc]) h0
    · obtain ⟨g, cap, rfl, -, c2, cg, ch, ha, hc⟩ := LT.open2 hL
      have ca := LT.open0 ha
      have cc := LT.open0 hc
      have hb6 : (a.tr.kind == 6) = false := by simpa using hka
      clear hoka hokc hok ha hc hL
      go_enter Try.func37, Try.ntmps37
      go_wp2_with (first | (go_at_call_of 38 (b); refine (is38_ret b _ w c0).mono ?_; rintro e w' ⟨rfl, rfl⟩) | (go_at_call_of 38 (a.blk); refine (is38_ret a.blk _ w ca).mono ?_; rintro e w' ⟨rfl, rfl⟩) | (go_at_call_of 38 (c.blk); refine (is38_ret c.blk _ w cc).mono ?_; rintro e w' ⟨rfl, rfl⟩))
      go_ret
      exact by_no (by simp [onB, LT.tr, hka]) h0
  · go_enter Try.func37, Try.ntmps37
    go_wp2_with (first | (go_at_call_of 38 (b); refine (is38_ret b _ w c0).mono ?_; rintro e w' ⟨rfl, rfl⟩))
    go_ret
    exact by_no (by simp [onB, LT.tr]) h0
  · have hoka := hok.2
    by_cases hka : a.tr.kind = 6
    · obtain ⟨g, cap, rfl, -, c2, cg, ha⟩ := LT.open1 hL
      have hoka := hok.2
      obtain ⟨ba, fa, va, x, rfl⟩ := LT.is1 hoka hka (by decide)
      clear hka
      obtain ⟨ga, capa, rfl, ca0, ca2, cag, hx⟩ := LT.open1 ha
      have hokx := hoka.2
      replace c0 : w.cell? ⟨b, 0, none⟩ = some (.int .i64 9) := c0
      replace c2 : w.cell? ⟨b, 2, none⟩ = some (.slice (some ⟨g, 0, none⟩) 1 cap) := c2
      replace cg : w.cell? ⟨g, 0, none⟩ = some (.pointer (some ⟨ba, 0, none⟩)) := cg
      replace ca0 : w.cell? ⟨ba, 0, none⟩ = some (.int .i64 6) := ca0
      replace ca2 : w.cell? ⟨ba, 2, none⟩ = some (.slice (some ⟨ga, 0, none⟩) 1 capa) := ca2
      replace cag : w.cell? ⟨ga, 0, none⟩ = some (.pointer (some ⟨x.blk, 0, none⟩)) := cag
      replace hx : x.In w 38 29 lo w.heap.size := hx
      replace ha : (LT.n1 ba 6 fa (.slice (some ⟨ga, 0, none⟩) 1 capa) x).In w 38 29 lo w.heap.size := ha
      replace hL : (LT.n1 b 9 f (.slice (some ⟨g, 0, none⟩) 1 cap) (LT.n1 ba 6 fa (.slice (some ⟨ga, 0, none⟩) 1 capa) x)).In w 38 29 lo w.heap.size := hL
      have HOK := Lib.hid hok
      have OKx := Lib.hid hokx
      clear hok hokx hoka
      go_enter Try.func37, Try.ntmps37
      go_wp2_with (first |  (go_at_call_of 38 (b); refine (is38_ret b _ w c0).mono ?_; rintro e w' ⟨rfl, rfl⟩) | (go_at_call_of 38 (ba); refine (is38_ret ba _ w ca0).mono ?_; rintro e w' ⟨rfl, rfl⟩) | (have _q := hb1; go_at_call 19; refine (wOf1_ret 6 X1 lo w1 hX1).mono ?_; rintro e w2 ⟨X2, rfl, ht2, hX2, hb2⟩; have c0_2 := cell_later hb2 c0_1; have c2_2 := cell_later hb2 c2_1; have cg_2 := cell_later hb2 cg_1; have ca0_2 := cell_later hb2 ca0_1; have ca2_2 := cell_later hb2 ca2_1; have cag_2 := cell_later hb2 cag_1; have hB2 := hB1.trans (hb2.mono hB1.size)) | (go_at_call 19; refine (wOf1_ret 9 x lo w hx).mono ?_; rintro e w1 ⟨X1, rfl, ht1, hX1, hb1⟩; have c0_1 := cell_later hb1 c0; have c2_1 := cell_later hb1 c2; have cg_1 := cell_later hb1 cg; have ca0_1 := cell_later hb1 ca0; have ca2_1 := cell_later hb1 ca2; have cag_1 := cell_later hb1 cag; have hB1 := hb1))
      all_goals
        go_ret
        exact by_yes (by simp [onB, LT.tr, Tr.kind]) hL.le h0 hB2 hX2 (by simp only [ht2, ht1, LT.tr]) (ofnext_some _ _ _) ⟨.inr (.inl rfl), ⟨.inr (.inr (.inr rfl)), OKx.out⟩⟩ (by simp only [LT.tr, Tr.size]; omega)
    · obtain ⟨g, cap, rfl, -, c2, cg, ha⟩ := LT.open1 hL
      have ca := LT.open0 ha
      have hb6 : (a.tr.kind == 6) = false := by simpa using hka
      clear hoka hok ha hL
      go_enter Try.func37, Try.ntmps37
      go_wp2_with (first | (go_at_call_of 38 (b); refine (is38_ret b _ w c0).mono ?_; rintro e w' ⟨rfl, rfl⟩) | (go_at_call_of 38 (a.blk); refine (is38_ret a.blk _ w ca).mono ?_; rintro e w' ⟨rfl, rfl⟩))
      go_ret
      exact by_no (by simp [onB, LT.tr, hka]) h0
end Go.Proofs.Ytdfbclkafocnpaa
